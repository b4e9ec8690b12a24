/- The program: Why. -/
import Derived.Test.YtjkolebffbeeeaaGreatDoorXa
namespace Go.Proofs.YtjkolebffbeeeaaGreatDoor
open Go Go.RowKit Go.Proofs
attribute [local irreducible] J JQ JL JA JD

theorem It.up {C : It} {w w1 : World} (hC : C.holds w) (hlt : ∀ b, C.foot b → b < w.heap.size) (hb : Below w.heap.size w w1) : C.holds w1 := C.st _ _ (fun b h => hb.block b (hlt b h)) hC
theorem Wd.apart {A C : It} {B : Bs} {H : List It} {w : World} (hw : Wd B H w) (hk : Pk [A, C] H) (hA : A.ro = false) {b : Nat} (h1 : A.foot b) (h2 : C.foot b) : False := by
 have h := (List.pairwise_cons.1 (hw.pick hk).sep).1 C (by simp)
 rcases h with ⟨h, -⟩ | h
 ·rw [hA] at h; cases h
 ·exact h b h1 h2
theorem mkL_R {Bk : List Cl} : ∀ (l : List Nat) (m : MS), RixP Bk m.R → RixP Bk (mkL Bk m l).R
 | [], _, h => h
 | i :: l, m, h => mkL_R l (mkC Bk m i) (by
  intro x j hx
  unfold mkC at hx
  split at hx
  ·exact h x j hx
  ·rename_i c hc
   split at hx
   ·exact h x j hx
   ·dsimp only [upd] at hx
    split at hx
    ·injection hx with hx
     exact ⟨i, (List.getElem?_eq_some_iff.1 hc).1, hx.symm⟩
    ·exact h x j hx)
theorem hld_R (Bk : List Cl) (ed : Int) (fl0 : List ByteArray) : RixP Bk (hldM Bk ed fl0).R := by
 have hr : ∀ (n : Nat) (j : Nat) (m : MS), RixP Bk m.R → RixP Bk (rndF Bk (lvOf Bk) n ed j m).R := by
  intro n j
  induction j with
  | zero => intro m h; exact h
  | succ j ih =>
   intro m h; unfold rndF; split
   ·exact h
   ·exact ih _ (mkL_R _ m h)
 have key : ∀ k, RixP Bk (madF Bk (lvOf Bk) ed k ⟨fl0.reverse, fun _ => none, []⟩).R := by
  intro k
  induction k with
  | zero => intro x i hx; cases hx
  | succ k ih => rw [madF_s]; unfold levF; exact hr _ _ _ ih
 exact key _
/-- The steps of a claim's derivation, by the program. -/
def whF (W O : List Int) : List Int := O.filter (fun i => decide (i ∈ W))
def whyP (Bk : List Cl) (m : MS) (x : ByteArray) : List Int := whF (wanF Bk m.R (Bk.length + 1) [] x) m.O
theorem whF_s {W O : List Int} {k : Nat} {y : Int} (h : k < O.length) (hy : O[k]'h = y) : whF W (O.take (k + 1)) = if y ∈ W then whF W (O.take k) ++ [y] else whF W (O.take k) := by
 unfold whF; rw [List.take_succ_eq_append_getElem h, List.filter_append, hy]
 by_cases e : y ∈ W <;> simp [e]
theorem whF_len (W O : List Int) (k : Nat) : (whF W (O.take k)).length ≤ k := Nat.le_trans (List.length_filter_le _ _) (by rw [List.length_take]; omega)
set_option maxRecDepth 100000 in
set_option maxHeartbeats 4000000 in
theorem why57 {Bk : List Cl} {BA : Option Addr} {bc : Nat} {top ed : Int} {m : MS} {A0 : Option Addr} {c0 wp bp hb gb rb lb : Nat} (hR : RixP Bk m.R) (h64 : Bk.length ≤ 64) (hOi : ∀ y ∈ m.O, ∃ i : Nat, i < Bk.length ∧ y = i) (hOl : m.O.length ≤ 128) (x : ByteArray) (hxk : okS x) (w0 : World) (hB : BkW w0 Bk BA bc) (hrec : (recB wp bp hb gb rb ed (⟨m, A0, c0⟩ : RS)).holds w0) (hmp : (mapK Tryz.prog 9 3 kS okS dI rb (m.S.length) m.R).holds w0) (hbk : (bookB bp BA Bk.length bc lb top).holds w0) (hO : Arr 1 eI w0 (.slice A0 m.O.length c0) m.O) : Calls Tryz.prog 57 #[.pointer (some ⟨wp, 0, none⟩), .string x] w0 (RetS 3 1 eI (whyP Bk m x) w0) := by
 obtain ⟨hOb, hOA⟩ := arr_partsI hO
 refine J_enter (fun _ => False) (vs := [.pointer (some ⟨wp, 0, none⟩), .string x]) (k := 31) (l := [(0, .pointer (some ⟨wp, 0, none⟩)), (1, .string x)]) Tryz.func57 rfl rfl Tryz.ntmps57 rfl rfl (Wd.start _) ?_
 refine s2 ?_
 refine aW (oX [_]) (fun b2 hb2 => ?_)
 refine s5 ?_
 refine aW (ow_makeSet (kt := 3) (kv := kI) (ok := W64) rfl rfl rfl (fun _ => by kernel_rfl)) (fun b10 hb10 => ?_)
 refine aW oA (fun b5 hb5 => ?_)
 refine s5 ?_
 refine aW oA (fun b6 hb6 => ?_)
 refine s9 ?_
 refine kJ [(1, _), (2, _), (5, _), (6, _)] ?_
 refine s3 ?_
 refine aW (ow_callM (ec_valE (args := #[.string x, .pointer (some ⟨b2, 0, none⟩), .pointer (some ⟨b5, 0, none⟩), .pointer (some ⟨b6, 0, none⟩)]) rfl rfl rfl Cf.h rfl) rfl rfl rfl (fun _ => rfl) (by intro t; repeat constructor) (fun w hw => why79 (s := (⟨m, A0, c0⟩ : RS)) hR h64 (Bk.length + 1) x hxk [] ⟨wp, bp, hb, gb, rb, lb, b2, b5, b6, b10⟩ w w0 hB hw.bel hb10 ⟨(hw.ok (cellB b2 [.pointer (some ⟨wp, 0, none⟩)] 60) (by repeat constructor)).1, (hw.ok (cellB b5 [.map (some b10)] 115) (by repeat constructor)).1, (hw.ok (cellB b6 [.func (.func 79) #[] #[.pointer (some ⟨b2, 0, none⟩), .pointer (some ⟨b5, 0, none⟩), .pointer (some ⟨b6, 0, none⟩)]] 116) (by repeat constructor)).1, (It.up (C := (recB wp bp hb gb rb ed (⟨m, A0, c0⟩ : RS))) hrec (fun b e => by cases e; exact cellB_lt hrec) hw.bel), (It.up (C := mapK Tryz.prog 9 3 kS okS dI rb (m.S.length) m.R) hmp (fun b e => by cases e; exact mapK_lt hmp) hw.bel), (It.up (C := (bookB bp BA Bk.length bc lb top)) hbk (fun b e => by cases e; exact cellB_lt hbk) hw.bel), (fun e => hw.apart (A := cellB b2 [.pointer (some ⟨wp, 0, none⟩)] 60) (C := setB Tryz.prog 3 kI W64 b10 []) (by repeat constructor) rfl (b := b2) rfl e), (fun e => hw.apart (A := cellB b5 [.map (some b10)] 115) (C := setB Tryz.prog 3 kI W64 b10 []) (by repeat constructor) rfl (b := b5) rfl e), (fun e => hw.apart (A := cellB b6 [.func (.func 79) #[] #[.pointer (some ⟨b2, 0, none⟩), .pointer (some ⟨b5, 0, none⟩), .pointer (some ⟨b6, 0, none⟩)]] 116) (C := setB Tryz.prog 3 kI W64 b10 []) (by repeat constructor) rfl (b := b6) rfl e), (fun e => by have := cellB_lt hrec; have e2 : wp = b10 := e; have e3 : w0.heap.size ≤ b10 := hb10; omega), (fun e => by have := mapK_lt hmp; have e2 : rb = b10 := e; have e3 : w0.heap.size ≤ b10 := hb10; omega), (fun e => by have := cellB_lt hbk; have e2 : bp = b10 := e; have e3 : w0.heap.size ≤ b10 := hb10; omega)⟩ (hw.ok (setB Tryz.prog 3 kI W64 b10 []) (by repeat constructor)).1 (by have := muW_0 Bk []; omega) (by have := muW_0 Bk []; show 0 + _ ≤ _; omega))) (fun _ _ => ?_)
 refine s3 ?_
 refine kJ [(2, _), (5, _)] ?_
 refine s6 ?_
 refine J_own0 3 1 ?_
 refine s4 ?_
 refine aV (vOld rfl rfl (fun h => h) (cellB_get hrec rfl)) ?_
 refine s5 ?_
 refine xL (T := Nat × Option Addr × Nat) (fun q => q.1 ≤ m.O.length) (fun q => [(5, .pointer (some ⟨b5, 0, none⟩)), (7, .slice q.2.1 (whF (wanF Bk m.R (Bk.length + 1) [] x) (m.O.take q.1)).length q.2.2), (18, .slice A0 m.O.length c0), (19, .int .i64 (m.O.length : Nat)), (20, .int .i64 (q.1 : Nat))]) (fun q => [cellB b5 [.map (some b10)] 115, setB Tryz.prog 3 kI W64 b10 (wanF Bk m.R (Bk.length + 1) [] x), ownB 3 1 q.2.1 (whF (wanF Bk m.R (Bk.length + 1) [] x) (m.O.take q.1)).length q.2.2 ((whF (wanF Bk m.R (Bk.length + 1) [] x) (m.O.take q.1)).flatMap eI)]) (fun q => m.O.length - q.1) (0, none, 0) (Nat.zero_le _) ?_
 rintro ⟨k, vA, vc⟩ hk
 dsimp only at hk ⊢
 have hfl := whF_len (wanF Bk m.R (Bk.length + 1) [] x) m.O k
 refine s3 ?_
 refine JL_dec (fun h21 => ?_) (fun h21 => ?_)
 ·refine s9 ?_
  have hlty : k < m.O.length := by omega
  obtain ⟨bqy, pqy, rfl, hho⟩ := hOA (by intro e; rw [e] at hlty; simp at hlty)
  obtain ⟨y, hy⟩ : ∃ y, m.O[k]'hlty = y := ⟨_, rfl⟩
  have hmy : y ∈ m.O := by rw [← hy]; exact List.getElem_mem _
  obtain ⟨i, hil, rfl⟩ := hOi y hmy
  have hi64 : W64 ((i : Nat) : Int) := by unfold W64; omega
  refine s2 ?_
  refine aV (vHold rfl rfl (fun h => h) hho hlty (by omega) (by rw [hy]; rfl)) ?_
  refine s7 ?_
  refine aV (rv_lookS KI LBool ((i : Nat) : Int) Und.h rfl rfl rfl (by repeat constructor) rfl hi64) ?_
  refine JL_dec (fun h26 => ?_) (fun h26 => ?_)
  ·refine s3 ?_
   refine kJ [(5, _), (7, _), (9, _), (18, _), (19, _), (20, _)] ?_
   refine s3 ?_
   refine aW (ow_sliceC (vs := [_]) (ty := 3) rfl rfl (by rfl) rfl rfl (fun _ => by kernel_rfl)) (fun b29 hb29 => ?_)
   refine aS (oApp (sl := 24) EI (((i : Nat) : Int))) (fun A30 c30 => ?_)
   refine s4 ?_
   refine kJ [(5, _), (7, _), (18, _), (19, _), (20, _)] ?_
   refine s4 ?_
   have hs : (whF (wanF Bk m.R (Bk.length + 1) [] x) (m.O.take (k + 1))) = (whF (wanF Bk m.R (Bk.length + 1) [] x) (m.O.take k)) ++ [((i : Nat) : Int)] := by rw [whF_s hlty hy, if_pos h26]
   exact xR (k + 1, A30, c30) (by dsimp only; omega) (by dsimp only; omega) (hl := ⟨rfl, (by dsimp only; rw [hs]; rfl), rfl, rfl, (congrArg some (by go_num)), trivial⟩) (hH := by (try dsimp only); rw [hs]; repeat constructor)
  ·refine s6 ?_
   refine kJ [(5, _), (7, _), (18, _), (19, _), (20, _)] ?_
   refine s4 ?_
   have hs : (whF (wanF Bk m.R (Bk.length + 1) [] x) (m.O.take (k + 1))) = (whF (wanF Bk m.R (Bk.length + 1) [] x) (m.O.take k)) := by rw [whF_s hlty hy, if_neg h26]
   exact xR (k + 1, vA, vc) (by dsimp only; omega) (by dsimp only; omega) (hl := ⟨rfl, (by dsimp only; rw [hs]; rfl), rfl, rfl, (congrArg some (by go_num)), trivial⟩) (hH := by (try dsimp only); rw [hs]; repeat constructor)
 ·refine s10 ?_
  refine kJ [(7, _)] ?_
  refine s6 ?_
  refine JR_one rfl (rr_tmp rfl) ?_
  intro w' hw
  obtain rfl : k = m.O.length := by omega
  rw [List.take_length] at hw
  exact ⟨vA, vc, by unfold whyP; rw [List.take_length], hw.pick (by repeat constructor)⟩
theorem why_hq {Bk : List Cl} {ed : Int} {fl0 : List ByteArray} {x : ByteArray} (h : whyQ Bk ed fl0 x = none) : hldQ Bk ed fl0 = none ∧ nameB x = true ∧ x ∈ (hldM Bk ed fl0).S := by
 unfold whyQ at h
 cases hb : hldQ Bk ed fl0 with
 | some r => rw [hb] at h; cases h
 | none =>
  rw [hb] at h; dsimp only at h
  split at h
  ·rename_i h1
   split at h
   ·rename_i h2; exact ⟨rfl, h1, h2⟩
   ·cases h
  ·cases h
theorem why_q1 {Bk : List Cl} {ed : Int} {fl0 : List ByteArray} {x : ByteArray} {a n a' n' : Int} (h : whyQ Bk ed fl0 x = some (a, n)) (hb : hldQ Bk ed fl0 = some (a', n')) : a' = a ∧ n' = n := by
 unfold whyQ at h; rw [hb] at h; cases h; exact ⟨rfl, rfl⟩
theorem why_q2 {Bk : List Cl} {ed : Int} {fl0 : List ByteArray} {x : ByteArray} {a n : Int} (h : whyQ Bk ed fl0 x = some (a, n)) (hb : hldQ Bk ed fl0 = none) (hx : nameB x = false) : a = -1 ∧ n = 2 := by
 unfold whyQ at h; rw [hb] at h; dsimp only at h; rw [if_neg (by rw [hx]; decide)] at h; cases h; exact ⟨rfl, rfl⟩
theorem why_q3 {Bk : List Cl} {ed : Int} {fl0 : List ByteArray} {x : ByteArray} {a n : Int} (h : whyQ Bk ed fl0 x = some (a, n)) (hb : hldQ Bk ed fl0 = none) (hx : nameB x = true) : (a = -1 ∧ n = 7) ∧ x ∉ (hldM Bk ed fl0).S := by
 unfold whyQ at h; rw [hb] at h; dsimp only at h; rw [if_pos hx] at h
 split at h
 ·cases h
 ·rename_i h1; cases h; exact ⟨⟨rfl, rfl⟩, h1⟩
theorem hld_q1 {Bk : List Cl} {ed : Int} {fl0 : List ByteArray} {a n a' n' : Int} (hb : bndF Bk = some (a', n')) (h : hldQ Bk ed fl0 = some (a, n)) : a' = a ∧ n' = n := by
 unfold hldQ at h; rw [hb] at h; cases h; exact ⟨rfl, rfl⟩
theorem hld_q2 {Bk : List Cl} {ed : Int} {fl0 : List ByteArray} {a n : Int} (hb : bndF Bk = none) (h : hldQ Bk ed fl0 = some (a, n)) : (a = -1 ∧ n = 2) ∧ ¬ askB ed fl0 = true := by
 unfold hldQ at h; rw [hb] at h; dsimp only at h; split at h
 ·cases h
 ·rename_i h1; cases h; exact ⟨⟨rfl, rfl⟩, h1⟩
theorem why_cs {Bk : List Cl} {ed : Int} {fl0 : List ByteArray} {x : ByteArray} {a n : Int} (h : whyQ Bk ed fl0 x = some (a, n)) : (∃ a' n', bndF Bk = some (a', n') ∧ a' = a ∧ n' = n) ∨ (bndF Bk = none ∧ ¬ askB ed fl0 = true ∧ a = -1 ∧ n = 2) ∨ (bndF Bk = none ∧ askB ed fl0 = true ∧ hldQ Bk ed fl0 = none ∧ nameB x = false ∧ a = -1 ∧ n = 2) ∨ (bndF Bk = none ∧ askB ed fl0 = true ∧ hldQ Bk ed fl0 = none ∧ nameB x = true ∧ x ∉ (hldM Bk ed fl0).S ∧ a = -1 ∧ n = 7) := by
 obtain hk | ⟨a', n', hk⟩ := opt2 (hldQ Bk ed fl0)
 ·obtain ⟨hb, hak⟩ := hld_parts hk
  cases hx : nameB x with
  | false => exact .inr (.inr (.inl ⟨hb, hak, hk, rfl, why_q2 h hk hx⟩))
  | true => obtain ⟨h1, h2⟩ := why_q3 h hk hx; exact .inr (.inr (.inr ⟨hb, hak, hk, rfl, h2, h1⟩))
 ·obtain ⟨rfl, rfl⟩ := why_q1 h hk
  obtain hb | ⟨a', n', hb⟩ := opt2 (bndF Bk)
  ·obtain ⟨h1, h2⟩ := hld_q2 hb hk; exact .inr (.inl ⟨hb, h2, h1⟩)
  ·obtain ⟨rfl, rfl⟩ := hld_q1 hb hk; exact .inl ⟨_, _, hb, rfl, rfl⟩
set_option maxRecDepth 100000 in
set_option maxHeartbeats 4000000 in
theorem q56_no (Bk : List Cl) (A : Option Addr) (c b4 b5 b6 b7 b8 : Nat) (ed : Int) (fl0 : List ByteArray) (fA0 : Option Addr) (fc0 : Nat) (hok : ∀ s ∈ fl0, okS s) (x : ByteArray) (hxk : okS x) (w : World) (hl : (cellB b4 [.slice A Bk.length c] 22).holds w) (he : (cellB b5 [.int .i64 ed] 3).holds w) (hf : (cellB b6 [.slice fA0 fl0.length fc0] 23).holds w) (hx : (cellB b7 [.string x] 9).holds w) (hbk : BkW w Bk A c) (hfl : Arr 1 eS w (.slice fA0 fl0.length fc0) fl0) {a n : Int} (hq : whyQ Bk ed fl0 x = some (a, n)) : Calls Tryz.prog 56 #[.pointer (some ⟨b4, 0, none⟩), .pointer (some ⟨b5, 0, none⟩), .pointer (some ⟨b6, 0, none⟩), .pointer (some ⟨b7, 0, none⟩), .pointer (some ⟨b8, 0, none⟩)] w (Fails a n w) := by
 refine J_enter (fun _ => False) (vs := [.pointer (some ⟨b4, 0, none⟩), .pointer (some ⟨b5, 0, none⟩), .pointer (some ⟨b6, 0, none⟩), .pointer (some ⟨b7, 0, none⟩), .pointer (some ⟨b8, 0, none⟩)]) (k := 19) (l := [(0, .pointer (some ⟨b4, 0, none⟩)), (1, .pointer (some ⟨b5, 0, none⟩)), (2, .pointer (some ⟨b6, 0, none⟩)), (3, .pointer (some ⟨b7, 0, none⟩)), (4, .pointer (some ⟨b8, 0, none⟩))]) Tryz.func56 rfl rfl Tryz.ntmps56 rfl rfl (Wd.start _) ?_
 refine s1 ?_
 rcases why_cs hq with ⟨a', n', hb, rfl, rfl⟩ | ⟨hb, hnq, rfl, rfl⟩ | ⟨hb, hak, hk, hnm, rfl, rfl⟩ | ⟨hb, hak, hk, hnm, hnin, rfl, rfl⟩
 ·refine xD [0, 2, 3, 1] [0, 2, 3] ?_
  refine dL rfl (vOld rfl rfl (fun h => h) (cellB_get hl rfl)) ?_
  refine dL rfl (vOld rfl rfl (fun h => h) (cellB_get he rfl)) ?_
  refine dL rfl (vOld rfl rfl (fun h => h) (cellB_get hf rfl)) ?_
  refine dPan rfl (ecF rfl rfl) (fun w hw => bound_no (hbk.up hw.bel) hb) ?_
  refine s1 ?_
  refine JR_panic ?_
  intro w' hw
  exact ⟨rfl, hw.bel⟩
 ·refine xD [0, 2, 3, 1, 4] [0, 2, 3] ?_
  refine dL rfl (vOld rfl rfl (fun h => h) (cellB_get hl rfl)) ?_
  refine dL rfl (vOld rfl rfl (fun h => h) (cellB_get he rfl)) ?_
  refine dL rfl (vOld rfl rfl (fun h => h) (cellB_get hf rfl)) ?_
  refine dW rfl (oR (fun w hw => bound_yes (hbk.up hw.bel) hb)) (fun t7 ht7 => ?_)
  obtain ⟨bp, lb, lv, top⟩ := t7
  obtain ⟨hlv, hin, htop, hge⟩ := ht7
  dsimp only [BdG, List.cons_append, List.nil_append] at hlv hin htop hge ⊢
  obtain ⟨tp, rfl⟩ : ∃ k : Nat, top = k := ⟨top.toNat, by omega⟩
  have h64 := bnd_64 hb
  refine dPan rfl (ecF rfl rfl) (fun w hw => made_no (hw.ok (bookB bp A Bk.length c lb (tp : Nat)) (by repeat constructor)).1 (hw.ok (mapK Tryz.prog 9 3 kS okS dI lb (4096) lv) (by repeat constructor)).1 (hbk.up hw.bel) h64 (by omega) (hfl.up ES hw.bel) hok hnq) ?_
  refine s1 ?_
  refine JR_panic ?_
  intro w' hw
  exact ⟨rfl, hw.bel⟩
 ·refine xD [0, 2, 3, 1, 4, 5] [0, 2, 3] ?_
  refine dL rfl (vOld rfl rfl (fun h => h) (cellB_get hl rfl)) ?_
  refine dL rfl (vOld rfl rfl (fun h => h) (cellB_get he rfl)) ?_
  refine dL rfl (vOld rfl rfl (fun h => h) (cellB_get hf rfl)) ?_
  refine dW rfl (oR (fun w hw => bound_yes (hbk.up hw.bel) hb)) (fun t7 ht7 => ?_)
  obtain ⟨bp, lb, lv, top⟩ := t7
  obtain ⟨hlv, hin, htop, hge⟩ := ht7
  dsimp only [BdG, List.cons_append, List.nil_append] at hlv hin htop hge ⊢
  obtain ⟨tp, rfl⟩ : ∃ k : Nat, top = k := ⟨top.toNat, by omega⟩
  have h64 := bnd_64 hb
  refine dW rfl (oR (fun w hw => made_yes (hw.ok (bookB bp A Bk.length c lb (tp : Nat)) (by repeat constructor)).1 (hw.ok (mapK Tryz.prog 9 3 kS okS dI lb (4096) lv) (by repeat constructor)).1 (hbk.up hw.bel) h64 (by omega) (hfl.up ES hw.bel) hok hak)) (fun t10 ht10 => ?_)
  obtain ⟨wp, hb', gb, rb, t⟩ := t10
  obtain ⟨hm, hmn, hmo⟩ := ht10
  obtain ⟨m, A0, c0⟩ := t
  dsimp only [MdG, List.cons_append, List.nil_append] at hm hmn hmo ⊢
  rw [hld_of hlv (by omega) (fun x hx => hge _ (hbk.cl x hx).tk)] at hm
  have hmk := hld_ok (ed := ed) (fun x hx => (hbk.cl x hx).tk) hok
  subst hm
  refine s4 ?_
  refine kJ [(3, _), (4, _), (5, _)] ?_
  refine s1 ?_
  refine aV (vOld rfl rfl (fun h => h) (cellB_get hx rfl)) ?_
  refine aCB (fun w hw => named42 x w hxk) ?_
  refine aBoolF ?_ hnm
  refine aPan (ecF rfl rfl) (fun w hw => need_no _ _ w) ?_
  refine s1 ?_
  refine JR_panic ?_
  intro w' hw
  exact ⟨rfl, hw.bel⟩
 ·refine xD [0, 2, 3, 1, 4, 5] [0, 2, 3] ?_
  refine dL rfl (vOld rfl rfl (fun h => h) (cellB_get hl rfl)) ?_
  refine dL rfl (vOld rfl rfl (fun h => h) (cellB_get he rfl)) ?_
  refine dL rfl (vOld rfl rfl (fun h => h) (cellB_get hf rfl)) ?_
  refine dW rfl (oR (fun w hw => bound_yes (hbk.up hw.bel) hb)) (fun t7 ht7 => ?_)
  obtain ⟨bp, lb, lv, top⟩ := t7
  obtain ⟨hlv, hin, htop, hge⟩ := ht7
  dsimp only [BdG, List.cons_append, List.nil_append] at hlv hin htop hge ⊢
  obtain ⟨tp, rfl⟩ : ∃ k : Nat, top = k := ⟨top.toNat, by omega⟩
  have h64 := bnd_64 hb
  refine dW rfl (oR (fun w hw => made_yes (hw.ok (bookB bp A Bk.length c lb (tp : Nat)) (by repeat constructor)).1 (hw.ok (mapK Tryz.prog 9 3 kS okS dI lb (4096) lv) (by repeat constructor)).1 (hbk.up hw.bel) h64 (by omega) (hfl.up ES hw.bel) hok hak)) (fun t10 ht10 => ?_)
  obtain ⟨wp, hb', gb, rb, t⟩ := t10
  obtain ⟨hm, hmn, hmo⟩ := ht10
  obtain ⟨m, A0, c0⟩ := t
  dsimp only [MdG, List.cons_append, List.nil_append] at hm hmn hmo ⊢
  rw [hld_of hlv (by omega) (fun x hx => hge _ (hbk.cl x hx).tk)] at hm
  have hmk := hld_ok (ed := ed) (fun x hx => (hbk.cl x hx).tk) hok
  subst hm
  refine s4 ?_
  refine kJ [(3, _), (4, _), (5, _)] ?_
  refine s1 ?_
  refine aV (vOld rfl rfl (fun h => h) (cellB_get hx rfl)) ?_
  refine aCB (fun w hw => named42 x w hxk) ?_
  refine aBoolT ?_ hnm
  refine aCB (fun w hw => need_yes _ _ w) ?_
  refine s3 ?_
  refine xD [0, 1, 2, 3, 4, 5, 6] [3, 4, 5] ?_
  refine s4 ?_
  refine dL rfl (vOld rfl rfl (fun h => h) (cellB_get hx rfl)) ?_
  refine dL rfl (rv_lookS KS LBool x Und.h rfl rfl rfl (by repeat constructor) rfl hxk) ?_
  refine dDecF ?_ hnin
  refine dPan rfl (ecF rfl rfl) (fun w hw => need_no _ _ w) ?_
  refine s1 ?_
  refine JR_panic ?_
  intro w' hw
  exact ⟨rfl, hw.bel⟩
set_option maxRecDepth 100000 in
set_option maxHeartbeats 4000000 in
theorem q56_yes (Bk : List Cl) (A : Option Addr) (c b4 b5 b6 b7 b8 : Nat) (ed : Int) (fl0 : List ByteArray) (fA0 : Option Addr) (fc0 : Nat) (hok : ∀ s ∈ fl0, okS s) (x : ByteArray) (hxk : okS x) (w : World) (hl : (cellB b4 [.slice A Bk.length c] 22).holds w) (he : (cellB b5 [.int .i64 ed] 3).holds w) (hf : (cellB b6 [.slice fA0 fl0.length fc0] 23).holds w) (hx : (cellB b7 [.string x] 9).holds w) (w0 : World) (hbk : BkW w0 Bk A c) (hfl : Arr 1 eS w0 (.slice fA0 fl0.length fc0) fl0) (hb0 : Below w0.heap.size w0 w) (hA : (cellB b8 [.slice none 0 0] 24).holds w) (hAf : ∀ b, (cellB b8 [.slice none 0 0] 24).foot b → b < w.heap.size) (hA0 : ∀ b, (cellB b8 [.slice none 0 0] 24).foot b → w0.heap.size ≤ b) (hn4 : ¬ (cellB b8 [.slice none 0 0] 24).foot b4) (hn5 : ¬ (cellB b8 [.slice none 0 0] 24).foot b5) (hn6 : ¬ (cellB b8 [.slice none 0 0] 24).foot b6) (hn7 : ¬ (cellB b8 [.slice none 0 0] 24).foot b7) (hq : whyQ Bk ed fl0 x = none) : Calls Tryz.prog 56 #[.pointer (some ⟨b4, 0, none⟩), .pointer (some ⟨b5, 0, none⟩), .pointer (some ⟨b6, 0, none⟩), .pointer (some ⟨b7, 0, none⟩), .pointer (some ⟨b8, 0, none⟩)] w (RetM (cellB b8 [.slice none 0 0] 24) (fun _ : Option Addr × Nat => True) (fun _ => .tuple #[]) (fun t => unI (cellB b8 [.slice t.1 (whyP Bk (hldM Bk ed fl0) x).length t.2] 24) (ownB 3 1 t.1 (whyP Bk (hldM Bk ed fl0) x).length t.2 ((whyP Bk (hldM Bk ed fl0) x).flatMap eI))) w) := by
 obtain ⟨hk, hnm, hinS⟩ := why_hq hq
 obtain ⟨hb, hak⟩ := hld_parts hk
 refine J_start (B := ⟨w, (cellB b8 [.slice none 0 0] 24).foot, none, []⟩) rfl rfl (vs := [.pointer (some ⟨b4, 0, none⟩), .pointer (some ⟨b5, 0, none⟩), .pointer (some ⟨b6, 0, none⟩), .pointer (some ⟨b7, 0, none⟩), .pointer (some ⟨b8, 0, none⟩)]) (k := 19) (l := [(0, .pointer (some ⟨b4, 0, none⟩)), (1, .pointer (some ⟨b5, 0, none⟩)), (2, .pointer (some ⟨b6, 0, none⟩)), (3, .pointer (some ⟨b7, 0, none⟩)), (4, .pointer (some ⟨b8, 0, none⟩))]) Tryz.func56 rfl rfl Tryz.ntmps56 rfl rfl (Wd.startM hA hAf) ?_
 refine s1 ?_
 refine xD [0, 2, 3, 1, 4, 5] [0, 2, 3] ?_
 refine dL rfl (vOld rfl rfl hn4 (cellB_get hl rfl)) ?_
 refine dL rfl (vOld rfl rfl hn5 (cellB_get he rfl)) ?_
 refine dL rfl (vOld rfl rfl hn6 (cellB_get hf rfl)) ?_
 refine dW rfl (oR (fun w hw => bound_yes (hbk.up (Wd.belO hw hb0 hA0)) hb)) (fun t7 ht7 => ?_)
 obtain ⟨bp, lb, lv, top⟩ := t7
 obtain ⟨hlv, hin, htop, hge⟩ := ht7
 dsimp only [BdG, List.cons_append, List.nil_append] at hlv hin htop hge ⊢
 obtain ⟨tp, rfl⟩ : ∃ k : Nat, top = k := ⟨top.toNat, by omega⟩
 have h64 := bnd_64 hb
 refine dW rfl (oR (fun w hw => made_yes (hw.ok (bookB bp A Bk.length c lb (tp : Nat)) (by repeat constructor)).1 (hw.ok (mapK Tryz.prog 9 3 kS okS dI lb (4096) lv) (by repeat constructor)).1 (hbk.up (Wd.belO hw hb0 hA0)) h64 (by omega) (hfl.up ES (Wd.belO hw hb0 hA0)) hok hak)) (fun t10 ht10 => ?_)
 obtain ⟨wp, hb', gb, rb, t⟩ := t10
 obtain ⟨hm, hmn, hmo⟩ := ht10
 obtain ⟨m, A0, c0⟩ := t
 dsimp only [MdG, List.cons_append, List.nil_append] at hm hmn hmo ⊢
 rw [hld_of hlv (by omega) (fun x hx => hge _ (hbk.cl x hx).tk)] at hm
 have hmk := hld_ok (ed := ed) (fun x hx => (hbk.cl x hx).tk) hok
 subst hm
 refine s4 ?_
 refine kJ [(3, _), (4, _), (5, _)] ?_
 refine s1 ?_
 refine aV (vOld rfl rfl hn7 (cellB_get hx rfl)) ?_
 refine aCB (fun w hw => named42 x w hxk) ?_
 refine aBoolT ?_ hnm
 refine aCB (fun w hw => need_yes _ _ w) ?_
 refine s3 ?_
 refine xD [0, 1, 2, 3, 4, 5, 6] [3, 4, 5] ?_
 refine s4 ?_
 refine dL rfl (vOld rfl rfl hn7 (cellB_get hx rfl)) ?_
 refine dL rfl (rv_lookS KS LBool x Und.h rfl rfl rfl (by repeat constructor) rfl hxk) ?_
 refine dDecT ?_ hinS
 refine dCB rfl (fun w hw => need_yes _ _ w) ?_
 refine s2 ?_
 refine kJ [(3, _), (4, _), (5, _)] ?_
 refine s2 ?_
 refine aV (vOld rfl rfl hn7 (cellB_get hx rfl)) ?_
 refine aS (oS (fun w hw => why57 (bc := c) (BA := A) (top := (tp : Nat)) (lb := lb) (hR := hld_R Bk ed fl0) h64 (hld_O Bk ed fl0) (by omega) x hxk w (hbk.up (Wd.belO hw hb0 hA0)) (hw.ok (recB wp bp hb' gb rb ed ⟨(hldM Bk ed fl0), A0, c0⟩) (by repeat constructor)).1 (hw.ok (mapK Tryz.prog 9 3 kS okS dI rb ((hldM Bk ed fl0).S.length) (hldM Bk ed fl0).R) (by repeat constructor)).1 (hw.ok (bookB bp A Bk.length c lb (tp : Nat)) (by repeat constructor)).1 (own_arr EI hw (by repeat constructor) (by omega)))) (fun A23 c23 => ?_)
 refine s2 ?_
 refine JR_end rfl ?_
 intro w' hw
 exact ⟨(A23, c23), trivial, rfl, Wd.unite (hw.pick (by repeat constructor)) rfl rfl⟩
set_option maxRecDepth 100000 in
set_option maxHeartbeats 4000000 in
theorem Why21 (Bk : List Cl) (A : Option Addr) (c : Nat) (ed : Int) (fl0 : List ByteArray) (fA0 : Option Addr) (fc0 : Nat) (x : ByteArray) (hok : ∀ s ∈ fl0, okS s) (hxk : okS x) (w : World) (hbk : BkW w Bk A c) (hfl : Arr 1 eS w (.slice fA0 fl0.length fc0) fl0) : Calls Tryz.prog 21 #[.slice A Bk.length c, .int .i64 ed, .slice fA0 fl0.length fc0, .string x] w (RetWy (fun m => whyP Bk m x) Bk ed fl0 x w) := by
 refine J_enter (fun _ => False) (vs := [.slice A Bk.length c, .int .i64 ed, .slice fA0 fl0.length fc0, .string x]) (k := 13) (l := [(0, .slice A Bk.length c), (1, .int .i64 ed), (2, .slice fA0 fl0.length fc0), (3, .string x)]) Tryz.func21 rfl rfl Tryz.ntmps21 rfl rfl (Wd.start _) ?_
 refine s2 ?_
 refine aW (oX [_]) (fun b4 hb4 => ?_)
 refine aW (oX [_]) (fun b5 hb5 => ?_)
 refine aW (oX [_]) (fun b6 hb6 => ?_)
 refine aW (oX [_]) (fun b7 hb7 => ?_)
 refine aW oA (fun b8 hb8 => ?_)
 refine s4 ?_
 obtain hq | ⟨a, n, hq⟩ := opt2 (whyQ Bk ed fl0 x)
 ·refine kJ [(4, _), (5, _), (6, _), (7, _), (8, _)] ?_
  refine s2 ?_
  refine aW (oM (fun w hw => answered_yes 56 #[.pointer (some ⟨b4, 0, none⟩), .pointer (some ⟨b5, 0, none⟩), .pointer (some ⟨b6, 0, none⟩), .pointer (some ⟨b7, 0, none⟩), .pointer (some ⟨b8, 0, none⟩)] (cellB b8 [.slice none 0 0] 24) (fun _ : Option Addr × Nat => True) (fun t => unI (cellB b8 [.slice t.1 (whyP Bk (hldM Bk ed fl0) x).length t.2] 24) (ownB 3 1 t.1 (whyP Bk (hldM Bk ed fl0) x).length t.2 ((whyP Bk (hldM Bk ed fl0) x).flatMap eI))) w (hw.ok (cellB b8 [.slice none 0 0] 24) (by repeat constructor)).1 (hw.newA (by repeat constructor) rfl).2 rfl (fun _ => rfl) (fun W hW => q56_yes Bk A c b4 b5 b6 b7 b8 ed fl0 fA0 fc0 hok x hxk W (hw.keepO (C := cellB b4 [.slice A Bk.length c] 22) hW (by repeat constructor) rfl).1 (hw.keepO (C := cellB b5 [.int .i64 ed] 3) hW (by repeat constructor) rfl).1 (hw.keepO (C := cellB b6 [.slice fA0 fl0.length fc0] 23) hW (by repeat constructor) rfl).1 (hw.keepO (C := cellB b7 [.string x] 9) hW (by repeat constructor) rfl).1 _ hbk hfl (hw.belM (A := cellB b8 [.slice none 0 0] 24) (by repeat constructor) rfl hW) (hW.ok (cellB b8 [.slice none 0 0] 24) (by repeat constructor)).1 (fun b hb => ((hW.ok (cellB b8 [.slice none 0 0] 24) (by repeat constructor)).2 b hb).2) (hw.newA (by repeat constructor) rfl).1 ((hw.keepO (C := cellB b4 [.slice A Bk.length c] 22) hW (by repeat constructor) rfl).2 b4 rfl) ((hw.keepO (C := cellB b5 [.int .i64 ed] 3) hW (by repeat constructor) rfl).2 b5 rfl) ((hw.keepO (C := cellB b6 [.slice fA0 fl0.length fc0] 23) hW (by repeat constructor) rfl).2 b6 rfl) ((hw.keepO (C := cellB b7 [.string x] 9) hW (by repeat constructor) rfl).2 b7 rfl) hq))) (fun t12 ht12 => ?_)
  refine JL_split ?_
  refine s7 ?_
  refine kJ [(8, _), (9, _)] ?_
  refine s8 ?_
  refine JR_two rfl (rr_cell rfl Agg.h (by repeat constructor) (by rfl)) (rr_tmp rfl) ?_
  intro w' hw
  unfold RetWy; rw [hq]
  exact ⟨t12, trivial, rfl, hw.pick (by repeat constructor)⟩
 ·refine kJ [(4, _), (5, _), (6, _), (7, _), (8, _)] ?_
  refine s2 ?_
  refine aCB (fun w hw => answered_no 56 #[.pointer (some ⟨b4, 0, none⟩), .pointer (some ⟨b5, 0, none⟩), .pointer (some ⟨b6, 0, none⟩), .pointer (some ⟨b7, 0, none⟩), .pointer (some ⟨b8, 0, none⟩)] a n w (fun W hW => q56_no Bk A c b4 b5 b6 b7 b8 ed fl0 fA0 fc0 hok x hxk W ((cellB b4 [.slice A Bk.length c] 22).st _ _ (fun b h => hW.block b ((hw.ok _ (by repeat constructor)).2 b h).2) (hw.ok (cellB b4 [.slice A Bk.length c] 22) (by repeat constructor)).1) ((cellB b5 [.int .i64 ed] 3).st _ _ (fun b h => hW.block b ((hw.ok _ (by repeat constructor)).2 b h).2) (hw.ok (cellB b5 [.int .i64 ed] 3) (by repeat constructor)).1) ((cellB b6 [.slice fA0 fl0.length fc0] 23).st _ _ (fun b h => hW.block b ((hw.ok _ (by repeat constructor)).2 b h).2) (hw.ok (cellB b6 [.slice fA0 fl0.length fc0] 23) (by repeat constructor)).1) ((cellB b7 [.string x] 9).st _ _ (fun b h => hW.block b ((hw.ok _ (by repeat constructor)).2 b h).2) (hw.ok (cellB b7 [.string x] 9) (by repeat constructor)).1) ((hbk.up hw.bel).up hW) ((hfl.up ES hw.bel).up ES hW) hq)) ?_
  refine s7 ?_
  refine kJ [(8, _), (9, _)] ?_
  refine s8 ?_
  refine JR_two rfl (rr_cell rfl Agg.h (by repeat constructor) (by rfl)) (rr_tmp rfl) ?_
  intro w' hw
  unfold RetWy; rw [hq]
  exact ⟨rfl, hw.bel⟩
end Go.Proofs.YtjkolebffbeeeaaGreatDoor
