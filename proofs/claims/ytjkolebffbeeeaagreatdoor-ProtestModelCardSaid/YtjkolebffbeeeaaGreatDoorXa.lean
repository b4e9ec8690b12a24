/- What a claim wants: why. -/
import Derived.Test.YtjkolebffbeeeaaGreatDoorWz
namespace Go.Proofs.YtjkolebffbeeeaaGreatDoor
open Go Go.RowKit Go.Proofs
attribute [local irreducible] J JQ JL JA JD

theorem Wd.was {A C : It} {H : List It} {r : Option Nat} {d : List Deferred} {w w1 : World} (hw : Wd ⟨w, A.foot, r, d⟩ H w1) (hC : C.holds w) (hlt : ∀ b, C.foot b → b < w.heap.size) (hf : ∀ b, C.foot b → ¬ A.foot b) : C.holds w1 := C.st _ _ (fun b hb => hw.block b (hlt b hb) (hf b hb)) hC
theorem cellB_lt {b : Nat} {v : Value} {vs : List Value} {ty : TypeId} {w : World} (h : (cellB b (v :: vs) ty).holds w) : b < w.heap.size := lt_cell (cellB_get h (off := 0) rfl)
theorem HoldL.lt {α : Type} {k : Nat} {enc : α → List Value} (E : Enc k enc) (hk : 0 < k) {w : World} {b o j : Nat} {l : List α} (h : HoldL k enc w b o l) (hj : j < l.length) : b < w.heap.size := by
 have h1 := h j hj 0 hk
 obtain ⟨v, hv⟩ : ∃ v, (enc (l[j]'hj))[0]? = some v := ⟨_, List.getElem?_eq_getElem (by rw [E.1]; exact hk)⟩
 rw [hv] at h1; exact lt_cell h1
/-- The If facts of a clause. -/
def fsOf (Bk : List Cl) (i : Int) : List ByteArray := match Bk[i.toNat]? with | some c => c.fs.l | none => []
/-- The reasons that a fact wants, besides those that are wanted. -/
def wanF (Bk : List Cl) (R : LM) : Nat → List Int → ByteArray → List Int
 | 0, W, _ => W
 | k + 1, W, x => match R x with
  | none => W
  | some i => if i ∈ W then W else (fsOf Bk i).foldl (wanF Bk R k) (i :: W)
def muW (Bk : List Cl) (W : List Int) : Nat := ((List.range Bk.length).filter (fun i => !decide (((i : Nat) : Int) ∈ W))).length
theorem filt_le {p q : Nat → Bool} (h : ∀ j, p j = true → q j = true) : ∀ l : List Nat, (l.filter p).length ≤ (l.filter q).length
 | [] => Nat.le_refl _
 | c :: l => by
  have ih := filt_le h l
  rw [List.filter_cons, List.filter_cons]
  cases hp : p c with
  | true => rw [if_pos rfl, if_pos (h c hp), List.length_cons, List.length_cons]; omega
  | false => rw [if_neg (by decide)]; split
             ·rw [List.length_cons]; omega
             ·exact ih
theorem filt_lt {p q : Nat → Bool} (h : ∀ j, p j = true → q j = true) {i : Nat} (h1 : p i = false) (h2 : q i = true) : ∀ l : List Nat, i ∈ l → (l.filter p).length < (l.filter q).length
 | c :: l, hm => by
  have hle := filt_le h l
  rw [List.filter_cons, List.filter_cons]
  by_cases e : c = i
  ·subst e
   rw [h1, h2, if_neg (by decide), if_pos rfl, List.length_cons]; omega
  ·have hm' : i ∈ l := by
    rcases List.mem_cons.1 hm with h | h
    ·exact absurd h.symm e
    ·exact h
   have ih := filt_lt h h1 h2 l hm'
   cases hp : p c with
   | true => rw [if_pos rfl, if_pos (h c hp), List.length_cons, List.length_cons]; omega
   | false => rw [if_neg (by decide)]; split
              ·rw [List.length_cons]; omega
              ·exact ih
theorem muW_le {W W' : List Int} (h : ∀ x ∈ W, x ∈ W') (Bk : List Cl) : muW Bk W' ≤ muW Bk W := filt_le (fun j hj => by
 simp only [Bool.not_eq_true', decide_eq_false_iff_not] at hj ⊢
 exact fun hm => hj (h _ hm)) _
theorem muW_lt {Bk : List Cl} {W : List Int} {i : Nat} (hi : i < Bk.length) (hn : ((i : Nat) : Int) ∉ W) : muW Bk (((i : Nat) : Int) :: W) < muW Bk W := filt_lt (fun j hj => by
 simp only [Bool.not_eq_true', decide_eq_false_iff_not] at hj ⊢
 exact fun hm => hj (List.mem_cons_of_mem _ hm)) (i := i) (by rw [decide_eq_true List.mem_cons_self]; rfl) (by rw [decide_eq_false hn]; rfl) _ (List.mem_range.2 hi)
/-- Reasons that are indices. -/
def RixP (Bk : List Cl) (R : LM) : Prop := ∀ x i, R x = some i → ∃ j : Nat, j < Bk.length ∧ i = j
theorem wan_cnt {Bk : List Cl} {R : LM} (hR : RixP Bk R) : ∀ (k : Nat) (W : List Int) (x : ByteArray), (∀ y ∈ W, y ∈ wanF Bk R k W x) ∧ (wanF Bk R k W x).length + muW Bk (wanF Bk R k W x) ≤ W.length + muW Bk W
 | 0, _, _ => ⟨fun _ h => h, Nat.le_refl _⟩
 | k + 1, W, x => by
  unfold wanF
  cases hx : R x with
  | none => exact ⟨fun _ h => h, Nat.le_refl _⟩
  | some i =>
   dsimp only
   split
   ·exact ⟨fun _ h => h, Nat.le_refl _⟩
   ·rename_i hn
    obtain ⟨j, hj, rfl⟩ := hR x i hx
    have key : ∀ (l : List ByteArray) (W : List Int), (∀ y ∈ W, y ∈ l.foldl (wanF Bk R k) W) ∧ (l.foldl (wanF Bk R k) W).length + muW Bk (l.foldl (wanF Bk R k) W) ≤ W.length + muW Bk W := by
     intro l
     induction l with
     | nil => intro W; exact ⟨fun _ h => h, Nat.le_refl _⟩
     | cons z l ih =>
      intro W
      obtain ⟨h1, h2⟩ := wan_cnt hR k W z
      obtain ⟨h3, h4⟩ := ih (wanF Bk R k W z)
      exact ⟨fun y hy => h3 y (h1 y hy), Nat.le_trans h4 h2⟩
    obtain ⟨h1, h2⟩ := key (fsOf Bk ((j : Nat) : Int)) (((j : Nat) : Int) :: W)
    have := muW_lt hj hn
    refine ⟨fun y hy => h1 y (List.mem_cons_of_mem _ hy), Nat.le_trans h2 ?_⟩
    rw [List.length_cons]; omega
theorem wan_fold {Bk : List Cl} {R : LM} (hR : RixP Bk R) (k : Nat) : ∀ (l : List ByteArray) (W : List Int), (∀ y ∈ W, y ∈ l.foldl (wanF Bk R k) W) ∧ (l.foldl (wanF Bk R k) W).length + muW Bk (l.foldl (wanF Bk R k) W) ≤ W.length + muW Bk W
 | [], W => ⟨fun _ h => h, Nat.le_refl _⟩
 | z :: l, W => by
  obtain ⟨h1, h2⟩ := wan_cnt hR k W z
  obtain ⟨h3, h4⟩ := wan_fold hR k l (wanF Bk R k W z)
  exact ⟨fun y hy => h3 y (h1 y hy), Nat.le_trans h4 h2⟩
theorem wan_s {Bk : List Cl} {R : LM} {k j : Nat} {l : List ByteArray} {z : ByteArray} {W : List Int} (h : j < l.length) (hz : l[j]'h = z) : (l.take (j + 1)).foldl (wanF Bk R k) W = wanF Bk R k ((l.take j).foldl (wanF Bk R k) W) z := by
 rw [List.take_succ_eq_append_getElem h, List.foldl_append, hz]; rfl
theorem muW_0 (Bk : List Cl) (W : List Int) : muW Bk W ≤ Bk.length := Nat.le_trans (List.length_filter_le _ _) (by rw [List.length_range]; exact Nat.le_refl _)
structure WhT where
 wp : Nat
 bp : Nat
 hb : Nat
 gb : Nat
 rb : Nat
 lb : Nat
 b2 : Nat
 b5 : Nat
 b6 : Nat
 gw : Nat
abbrev whC2 (t : WhT) : It := cellB t.b2 [.pointer (some ⟨t.wp, 0, none⟩)] 60
abbrev whC5 (t : WhT) : It := cellB t.b5 [.map (some t.gw)] 115
abbrev whC6 (t : WhT) : It := cellB t.b6 [.func (.func 79) #[] #[.pointer (some ⟨t.b2, 0, none⟩), .pointer (some ⟨t.b5, 0, none⟩), .pointer (some ⟨t.b6, 0, none⟩)]] 116
/-- What the closure reads. -/
structure WhH (Bk : List Cl) (BA : Option Addr) (bc : Nat) (top ed : Int) (s : RS) (t : WhT) (w : World) : Prop where
 c2 : (whC2 t).holds w
 c5 : (whC5 t).holds w
 c6 : (whC6 t).holds w
 rcd : (recB t.wp t.bp t.hb t.gb t.rb ed s).holds w
 mp : (mapK Tryz.prog 9 3 kS okS dI t.rb (s.m.S.length) s.m.R).holds w
 bk : (bookB t.bp BA Bk.length bc t.lb top).holds w
 n2 : t.b2 ≠ t.gw
 n5 : t.b5 ≠ t.gw
 n6 : t.b6 ≠ t.gw
 nw : t.wp ≠ t.gw
 nr : t.rb ≠ t.gw
 nb : t.bp ≠ t.gw
theorem WhH.up {Bk : List Cl} {BA : Option Addr} {bc : Nat} {top ed : Int} {s : RS} {t : WhT} {w w1 : World} {W : List Int} {H : List It} {r : Option Nat} {d : List Deferred} (h : WhH Bk BA bc top ed s t w) (hw : Wd ⟨w, (setB Tryz.prog 3 kI W64 t.gw W).foot, r, d⟩ H w1) : WhH Bk BA bc top ed s t w1 :=
 ⟨hw.was (C := whC2 t) h.c2 (fun b e => by cases e; exact cellB_lt h.c2) (fun b e e' => by cases e; exact h.n2 e'), hw.was (C := whC5 t) h.c5 (fun b e => by cases e; exact cellB_lt h.c5) (fun b e e' => by cases e; exact h.n5 e'), hw.was (C := whC6 t) h.c6 (fun b e => by cases e; exact cellB_lt h.c6) (fun b e e' => by cases e; exact h.n6 e'),
  hw.was (C := recB t.wp t.bp t.hb t.gb t.rb ed s) h.rcd (fun b e => by cases e; exact cellB_lt h.rcd) (fun b e e' => by cases e; exact h.nw e'), hw.was (C := mapK Tryz.prog 9 3 kS okS dI t.rb (s.m.S.length) s.m.R) h.mp (fun b e => by cases e; exact mapK_lt h.mp) (fun b e e' => by cases e; exact h.nr e'), hw.was (C := bookB t.bp BA Bk.length bc t.lb top) h.bk (fun b e => by cases e; exact cellB_lt h.bk) (fun b e e' => by cases e; exact h.nb e'), h.n2, h.n5, h.n6, h.nw, h.nr, h.nb⟩

set_option maxRecDepth 100000 in
set_option maxHeartbeats 4000000 in
theorem why79 {Bk : List Cl} {BA : Option Addr} {bc : Nat} {top ed : Int} {s : RS} (hR : RixP Bk s.m.R) (h64 : Bk.length ≤ 64) : ∀ (k : Nat) (x : ByteArray) (_ : okS x) (W : List Int) (t : WhT) (w w0 : World) (_ : BkW w0 Bk BA bc) (_ : Below w0.heap.size w0 w) (_ : w0.heap.size ≤ t.gw) (_ : WhH Bk BA bc top ed s t w) (_ : (setB Tryz.prog 3 kI W64 t.gw W).holds w) (_ : muW Bk W < k) (_ : W.length + muW Bk W ≤ 64), Calls Tryz.prog 79 #[.string x, .pointer (some ⟨t.b2, 0, none⟩), .pointer (some ⟨t.b5, 0, none⟩), .pointer (some ⟨t.b6, 0, none⟩)] w (RetM (setB Tryz.prog 3 kI W64 t.gw W) (fun _ : Unit => True) (fun _ => .tuple #[]) (fun _ => setB Tryz.prog 3 kI W64 t.gw (wanF Bk s.m.R k W x)) w)
 | 0, _, _, _, _, _, _, _, _, _, _, _, hmu, _ => absurd hmu (Nat.not_lt_zero _)
 | k + 1, x, hxk, W, t, w, w0, hB, hb0, hg0, h, hA, hmu, hct => by
  obtain ⟨hBb, hBA⟩ := arr_partsC hB.row
  refine J_start (B := ⟨w, (setB Tryz.prog 3 kI W64 t.gw W).foot, none, []⟩) rfl rfl (vs := [.string x, .pointer (some ⟨t.b2, 0, none⟩), .pointer (some ⟨t.b5, 0, none⟩), .pointer (some ⟨t.b6, 0, none⟩)]) (k := 43) (l := [(0, .string x), (1, .pointer (some ⟨t.b2, 0, none⟩)), (2, .pointer (some ⟨t.b5, 0, none⟩)), (3, .pointer (some ⟨t.b6, 0, none⟩))]) Tryz.func79 rfl rfl Tryz.ntmps79 rfl rfl (Wd.startM hA (fun b e => by cases e; exact setB_lt hA)) ?_
  refine s1 ?_
  cases hx : s.m.R x
  ·refine s1 ?_
   refine aV (vOld rfl rfl h.n2 (cellB_get h.c2 rfl)) ?_
   refine s2 ?_
   refine aV (vOld rfl rfl h.nw (cellB_get h.rcd rfl)) ?_
   refine s1 ?_
   refine aV (show RV _ _ _ _ _ _ (.tuple #[.int .i64 0, .bool false]) from rv_lookKO2 KS LI64 x Und.h rfl rfl rfl h.nr h.mp rfl hxk hx) ?_
   refine s9 ?_
   skip
   ·refine kJ [(1, _), (2, _), (3, _), (5, _), (6, _)] ?_
    refine s13 ?_
    refine JR_none rfl ?_
    intro w' hw
    exact ⟨(), trivial, rfl, by unfold wanF; rw [hx]; exact hw.pick (by repeat constructor)⟩
  ·rename_i i0
   obtain ⟨i, hil, rfl⟩ := hR x i0 hx
   have hi64 : W64 ((i : Nat) : Int) := by unfold W64; omega
   refine s1 ?_
   refine aV (vOld rfl rfl h.n2 (cellB_get h.c2 rfl)) ?_
   refine s2 ?_
   refine aV (vOld rfl rfl h.nw (cellB_get h.rcd rfl)) ?_
   refine s1 ?_
   refine aV (show RV _ _ _ _ _ _ (.tuple #[.int .i64 ((i : Nat) : Int), .bool true]) from rv_lookKO2 KS LI64 x Und.h rfl rfl rfl h.nr h.mp rfl hxk hx) ?_
   refine s9 ?_
   by_cases hW : ((i : Nat) : Int) ∈ W
   ·refine kJ [(1, _), (2, _), (3, _), (5, _), (6, _)] ?_
    refine s4 ?_
    refine aV (vOld rfl rfl h.n5 (cellB_get h.c5 rfl)) ?_
    refine s1 ?_
    refine aV (rv_lookS KI LBool ((i : Nat) : Int) Und.h rfl rfl rfl (by repeat constructor) rfl hi64) ?_
    refine aDecT ?_ hW
    refine s6 ?_
    refine JR_none rfl ?_
    intro w' hw
    exact ⟨(), trivial, rfl, by unfold wanF; rw [hx]; dsimp only; rw [if_pos hW]; exact hw.pick (by repeat constructor)⟩
   ·refine kJ [(1, _), (2, _), (3, _), (5, _), (6, _)] ?_
    refine s4 ?_
    refine aV (vOld rfl rfl h.n5 (cellB_get h.c5 rfl)) ?_
    refine s1 ?_
    refine aV (rv_lookS KI LBool ((i : Nat) : Int) Und.h rfl rfl rfl (by repeat constructor) rfl hi64) ?_
    refine aDecF ?_ hW
    refine s7 ?_
    refine kJ [(1, _), (2, _), (3, _), (5, _)] ?_
    refine s1 ?_
    refine aV (vOld rfl rfl h.n5 (cellB_get h.c5 rfl)) ?_
    refine s1 ?_
    refine aW0 (ow_putS KI LBool ((i : Nat) : Int) Und.h rfl rfl rfl rfl rfl rfl rfl (by repeat constructor) hi64 (by omega)) ?_
    refine s3 ?_
    have hlt : i < Bk.length := hil
    obtain ⟨bB, pB, rfl, hhB⟩ := hBA (by intro e; subst e; simp at hlt)
    obtain ⟨⟨cn, cf, ct, ⟨fA, fn, fc, fl⟩, ⟨uA, un, uc, ul⟩, th⟩, hc⟩ : ∃ c, Bk[i]'hlt = c := ⟨_, rfl⟩
    have hcm : (⟨cn, cf, ct, ⟨fA, fn, fc, fl⟩, ⟨uA, un, uc, ul⟩, th⟩ : Cl) ∈ Bk := by rw [← hc]; exact List.getElem_mem _
    obtain ⟨hfs, hus, hfk, huk, hnk, htk⟩ := hB.cl _ hcm
    obtain rfl : fn = fl.length := dv_nc hfs
    obtain rfl : un = ul.length := dv_nc hus
    dsimp only [Dv.v] at hfs hus hfk huk hnk htk
    obtain ⟨hfb, hfA⟩ := arr_parts hfs
    obtain ⟨hub, huA⟩ := arr_parts hus
    refine s1 ?_
    refine aV (vOld rfl rfl h.n2 (cellB_get h.c2 rfl)) ?_
    refine s2 ?_
    refine aV (vOld rfl rfl h.nw (cellB_get h.rcd rfl)) ?_
    refine s2 ?_
    refine aV (vOld rfl rfl h.nb (cellB_get h.bk rfl)) ?_
    refine s1 ?_
    refine aP (pIdxI (i) rfl rfl rfl) ?_
    refine s1 ?_
    refine aV (vHold (v := .slice fA fl.length fc) rfl rfl (fun e => by have := HoldL.lt EC6 (by decide) hhB hlt; have e2 : bB = t.gw := e; omega) (hhB.up EC6 hb0) hlt (by omega) (by rw [hc]; rfl)) ?_
    refine s5 ?_
    refine xL (T := Nat) (fun j => j ≤ fl.length) (fun j => [(1, .pointer (some ⟨t.b2, 0, none⟩)), (2, .pointer (some ⟨t.b5, 0, none⟩)), (3, .pointer (some ⟨t.b6, 0, none⟩)), (37, .slice fA fl.length fc), (38, .int .i64 (fl.length : Nat)), (39, .int .i64 (j : Nat))]) (fun j => [setB Tryz.prog 3 kI W64 t.gw ((fl.take j).foldl (wanF Bk s.m.R k) (((i : Nat) : Int) :: W))]) (fun j => fl.length - j) 0 (Nat.zero_le _) ?_
    rintro j hj
    obtain ⟨hsub, hcnt⟩ := wan_fold hR k (fl.take j) (((i : Nat) : Int) :: W)
    have hlt1 := muW_lt hil hW
    rw [List.length_cons] at hcnt
    have hmu1 := muW_le hsub Bk
    refine s3 ?_
    refine JL_dec (fun h40 => ?_) (fun h40 => ?_)
    ·refine s9 ?_
     have hltz : j < fl.length := by omega
     obtain ⟨bqz, pqz, rfl, hhf⟩ := hfA (by intro e; subst e; simp at hltz)
     obtain ⟨z, hz⟩ : ∃ y, fl[j]'hltz = y := ⟨_, rfl⟩
     have hmz : z ∈ fl := by rw [← hz]; exact List.getElem_mem _
     refine s2 ?_
     refine aV (vHold rfl rfl (fun e => by have := HoldL.lt ES (by decide) hhf hltz; have e2 : bqz = t.gw := e; omega) (hhf.up ES hb0) hltz (by omega) (by rw [hz]; rfl)) ?_
     refine s4 ?_
     refine aV (vOld rfl rfl h.n6 (cellB_get h.c6 rfl)) ?_
     refine s1 ?_
     refine aW (ow_callM (ec_valE (args := #[.string z, .pointer (some ⟨t.b2, 0, none⟩), .pointer (some ⟨t.b5, 0, none⟩), .pointer (some ⟨t.b6, 0, none⟩)]) rfl rfl rfl Cf.h rfl) rfl rfl rfl (fun _ => rfl) (by intro t; repeat constructor) (fun w hw => why79 hR h64 k z (hfk z hmz) ((fl.take j).foldl (wanF Bk s.m.R k) (((i : Nat) : Int) :: W)) t w w0 hB (Wd.belO hw hb0 (fun b e => by cases e; exact hg0)) hg0 (h.up hw) (hw.ok _ (List.mem_cons_self)).1 (by omega) (by omega))) (fun _ _ => ?_)
     refine s3 ?_
     refine kJ [(1, _), (2, _), (3, _), (37, _), (38, _), (39, _)] ?_
     refine s4 ?_
     have hs : ((fl.take (j + 1)).foldl (wanF Bk s.m.R k) (((i : Nat) : Int) :: W)) = wanF Bk s.m.R k ((fl.take j).foldl (wanF Bk s.m.R k) (((i : Nat) : Int) :: W)) z := wan_s hltz hz
     exact xR (j + 1) (by omega) (by omega) (hl := ⟨rfl, rfl, rfl, rfl, rfl, (congrArg some (by go_num)), trivial⟩) (hH := by (try dsimp only); rw [hs]; repeat constructor)
    ·refine s8 ?_
     refine JR_end rfl ?_
     intro w' hw
     obtain rfl : j = fl.length := by omega
     refine ⟨(), trivial, rfl, ?_⟩
     unfold wanF; rw [hx]; dsimp only; rw [if_neg hW]
     have hfo : fsOf Bk ((i : Nat) : Int) = fl := by unfold fsOf; rw [Int.toNat_natCast, List.getElem?_eq_getElem hlt, hc]
     rw [hfo]; rw [List.take_length] at hw; exact hw.pick (by repeat constructor)
end Go.Proofs.YtjkolebffbeeeaaGreatDoor
