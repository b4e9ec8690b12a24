/- The program: Proves. -/
import Derived.Test.YtjkolebffbeeeaaGreatDoorXc
import Derived.Test.YtjkolebffbeeeaaGreatDoorG12
namespace Go.Proofs.YtjkolebffbeeeaaGreatDoor
open Go Go.RowKit Go.Proofs
attribute [local irreducible] J JQ JL JA JD

theorem prv_cs {Bk : List Cl} {ed : Int} {fl0 : List ByteArray} {x : ByteArray} {l : List Int} {a n : Int} (h : prvQ Bk ed fl0 x l = some (a, n)) : (∃ a' n', bndF Bk = some (a', n') ∧ a' = a ∧ n' = n) ∨ (bndF Bk = none ∧ ¬ askB ed fl0 = true ∧ a = -1 ∧ n = 2) ∨ (bndF Bk = none ∧ askB ed fl0 = true ∧ hldQ Bk ed fl0 = none ∧ nameB x = false ∧ a = -1 ∧ n = 2) ∨ (bndF Bk = none ∧ askB ed fl0 = true ∧ hldQ Bk ed fl0 = none ∧ nameB x = true ∧ l.all (inB Bk) = false ∧ a = -1 ∧ n = 4) := by
 unfold prvQ at h
 obtain hk | ⟨a', n', hk⟩ := opt2 (hldQ Bk ed fl0)
 ·obtain ⟨hb, hak⟩ := hld_parts hk
  rw [hk] at h; dsimp only at h
  cases hx : nameB x with
  | false => rw [hx, if_neg (by decide)] at h; cases h; exact .inr (.inr (.inl ⟨hb, hak, hk, rfl, rfl, rfl⟩))
  | true =>
   rw [hx, if_pos rfl] at h
   cases hi : l.all (inB Bk) with
   | false => rw [hi, if_neg (by decide)] at h; cases h; exact .inr (.inr (.inr ⟨hb, hak, hk, rfl, rfl, rfl, rfl⟩))
   | true => rw [hi, if_pos rfl] at h; cases h
 ·rw [hk] at h; cases h
  obtain hb | ⟨a', n', hb⟩ := opt2 (bndF Bk)
  ·obtain ⟨h1, h2⟩ := hld_q2 hb hk; exact .inr (.inl ⟨hb, h2, h1⟩)
  ·obtain ⟨rfl, rfl⟩ := hld_q1 hb hk; exact .inl ⟨_, _, hb, rfl, rfl⟩
theorem prv_hq {Bk : List Cl} {ed : Int} {fl0 : List ByteArray} {x : ByteArray} {l : List Int} (h : prvQ Bk ed fl0 x l = none) : hldQ Bk ed fl0 = none ∧ nameB x = true ∧ l.all (inB Bk) = true := by
 unfold prvQ at h
 cases hb : hldQ Bk ed fl0 with
 | some r => rw [hb] at h; cases h
 | none =>
  rw [hb] at h; dsimp only at h
  split at h
  ·rename_i h1
   split at h
   ·rename_i h2; exact ⟨rfl, h1, h2⟩
   ·cases h
  ·cases h
theorem ix_no {Bk : List Cl} {BA : Option Addr} {bc lb bp : Nat} {top : Int} {l : List Int} {lA : Option Addr} {lc : Nat} {w : World} (hbk : (bookB bp BA Bk.length bc lb top).holds w) (hBl : Bk.length ≤ 64) (hl : Arr 1 eI w (.slice lA l.length lc) l) (h : l.all (inB Bk) = false) : Calls Tryz.prog 43 #[.pointer (some ⟨bp, 0, none⟩), .slice lA l.length lc] w (Fails (-1) 4 w) :=
 (index43 Bk BA bc lb bp top l lA lc w hbk hBl hl).mono (fun _ _ h' => by unfold RetIx at h'; rwa [if_neg (by rw [h]; decide)] at h')
theorem ix_yes {Bk : List Cl} {BA : Option Addr} {bc lb bp : Nat} {top : Int} {l : List Int} {lA : Option Addr} {lc : Nat} {w : World} (hbk : (bookB bp BA Bk.length bc lb top).holds w) (hBl : Bk.length ≤ 64) (hl : Arr 1 eI w (.slice lA l.length lc) l) (h : l.all (inB Bk) = true) : Calls Tryz.prog 43 #[.pointer (some ⟨bp, 0, none⟩), .slice lA l.length lc] w (Back (.tuple #[]) w) :=
 (index43 Bk BA bc lb bp top l lA lc w hbk hBl hl).mono (fun _ _ h' => by unfold RetIx at h'; rwa [if_pos h] at h')
set_option maxRecDepth 100000 in
set_option maxHeartbeats 4000000 in
theorem q38_no (Bk : List Cl) (A : Option Addr) (c b5 b6 b7 b9 b8 b10 b11 : Nat) (ed : Int) (fl0 : List ByteArray) (fA0 : Option Addr) (fc0 : Nat) (hok : ∀ s ∈ fl0, okS s) (x : ByteArray) (hxk : okS x) (l : List Int) (lA : Option Addr) (lc : Nat) (w : World) (hl : (cellB b5 [.slice A Bk.length c] 22).holds w) (he : (cellB b6 [.int .i64 ed] 3).holds w) (hf : (cellB b7 [.slice fA0 fl0.length fc0] 23).holds w) (hx : (cellB b9 [.string x] 9).holds w) (hs : (cellB b8 [.slice lA l.length lc] 24).holds w) (hbk : BkW w Bk A c) (hfl : Arr 1 eS w (.slice fA0 fl0.length fc0) fl0) (hst : Arr 1 eI w (.slice lA l.length lc) l) {a n : Int} (hq : prvQ Bk ed fl0 x l = some (a, n)) : Calls Tryz.prog 38 #[.pointer (some ⟨b5, 0, none⟩), .pointer (some ⟨b6, 0, none⟩), .pointer (some ⟨b7, 0, none⟩), .pointer (some ⟨b9, 0, none⟩), .pointer (some ⟨b8, 0, none⟩), .pointer (some ⟨b10, 0, none⟩), .pointer (some ⟨b11, 0, none⟩)] w (Fails a n w) := by
 refine J_enter (fun _ => False) (vs := [.pointer (some ⟨b5, 0, none⟩), .pointer (some ⟨b6, 0, none⟩), .pointer (some ⟨b7, 0, none⟩), .pointer (some ⟨b9, 0, none⟩), .pointer (some ⟨b8, 0, none⟩), .pointer (some ⟨b10, 0, none⟩), .pointer (some ⟨b11, 0, none⟩)]) (k := 31) (l := [(0, .pointer (some ⟨b5, 0, none⟩)), (1, .pointer (some ⟨b6, 0, none⟩)), (2, .pointer (some ⟨b7, 0, none⟩)), (3, .pointer (some ⟨b9, 0, none⟩)), (4, .pointer (some ⟨b8, 0, none⟩)), (5, .pointer (some ⟨b10, 0, none⟩)), (6, .pointer (some ⟨b11, 0, none⟩))]) Tryz.func38 rfl rfl Tryz.ntmps38 rfl rfl (Wd.start _) ?_
 refine s1 ?_
 rcases prv_cs hq with ⟨a', n', hb, rfl, rfl⟩ | ⟨hb, hnq, rfl, rfl⟩ | ⟨hb, hak, hk, hnm, rfl, rfl⟩ | ⟨hb, hak, hk, hnm, hni, rfl, rfl⟩
 ·refine xD [0, 2, 3, 1] [0, 2, 3] ?_
  refine dL rfl (vOld rfl rfl (fun h => h) (cellB_get hl rfl)) ?_
  refine dL rfl (vOld rfl rfl (fun h => h) (cellB_get he rfl)) ?_
  refine dL rfl (vOld rfl rfl (fun h => h) (cellB_get hf rfl)) ?_
  refine dPan rfl (ecF rfl rfl) (fun w hw => bound_no (hbk.up hw.bel) hb) ?_
  refine s1 ?_
  refine JR_panic ?_
  intro w' hw
  exact ⟨rfl, hw.bel⟩
 ·refine xD [0, 2, 3, 1, 4] [0, 2, 3] ?_
  refine dL rfl (vOld rfl rfl (fun h => h) (cellB_get hl rfl)) ?_
  refine dL rfl (vOld rfl rfl (fun h => h) (cellB_get he rfl)) ?_
  refine dL rfl (vOld rfl rfl (fun h => h) (cellB_get hf rfl)) ?_
  refine dW rfl (oR (fun w hw => bound_yes (hbk.up hw.bel) hb)) (fun t11 ht11 => ?_)
  obtain ⟨bp, lb, lv, top⟩ := t11
  obtain ⟨hlv, hin, htop, hge⟩ := ht11
  dsimp only [BdG, List.cons_append, List.nil_append] at hlv hin htop hge ⊢
  obtain ⟨tp, rfl⟩ : ∃ k : Nat, top = k := ⟨top.toNat, by omega⟩
  have h64 := bnd_64 hb
  refine dPan rfl (ecF rfl rfl) (fun w hw => made_no (hw.ok (bookB bp A Bk.length c lb (tp : Nat)) (by repeat constructor)).1 (hw.ok (mapK Tryz.prog 9 3 kS okS dI lb (4096) lv) (by repeat constructor)).1 (hbk.up hw.bel) h64 (by omega) (hfl.up ES hw.bel) hok hnq) ?_
  refine s1 ?_
  refine JR_panic ?_
  intro w' hw
  exact ⟨rfl, hw.bel⟩
 ·refine xD [0, 2, 3, 1, 4, 5] [0, 2, 3] ?_
  refine dL rfl (vOld rfl rfl (fun h => h) (cellB_get hl rfl)) ?_
  refine dL rfl (vOld rfl rfl (fun h => h) (cellB_get he rfl)) ?_
  refine dL rfl (vOld rfl rfl (fun h => h) (cellB_get hf rfl)) ?_
  refine dW rfl (oR (fun w hw => bound_yes (hbk.up hw.bel) hb)) (fun t11 ht11 => ?_)
  obtain ⟨bp, lb, lv, top⟩ := t11
  obtain ⟨hlv, hin, htop, hge⟩ := ht11
  dsimp only [BdG, List.cons_append, List.nil_append] at hlv hin htop hge ⊢
  obtain ⟨tp, rfl⟩ : ∃ k : Nat, top = k := ⟨top.toNat, by omega⟩
  have h64 := bnd_64 hb
  refine dW rfl (oR (fun w hw => made_yes (hw.ok (bookB bp A Bk.length c lb (tp : Nat)) (by repeat constructor)).1 (hw.ok (mapK Tryz.prog 9 3 kS okS dI lb (4096) lv) (by repeat constructor)).1 (hbk.up hw.bel) h64 (by omega) (hfl.up ES hw.bel) hok hak)) (fun t14 ht14 => ?_)
  obtain ⟨wp, hb', gb, rb, t⟩ := t14
  obtain ⟨hm, hmn, hmo⟩ := ht14
  obtain ⟨m, A0, c0⟩ := t
  dsimp only [MdG, List.cons_append, List.nil_append] at hm hmn hmo ⊢
  rw [hld_of hlv (by omega) (fun x hx => hge _ (hbk.cl x hx).tk)] at hm
  have hmk := hld_ok (ed := ed) (fun x hx => (hbk.cl x hx).tk) hok
  subst hm
  refine s4 ?_
  refine kJ [(3, _), (4, _), (5, _), (6, _), (7, _)] ?_
  refine s1 ?_
  refine aV (vOld rfl rfl (fun h => h) (cellB_get hx rfl)) ?_
  refine aCB (fun w hw => named42 x w hxk) ?_
  refine aBoolF ?_ hnm
  refine aPan (ecF rfl rfl) (fun w hw => need_no _ _ w) ?_
  refine s1 ?_
  refine JR_panic ?_
  intro w' hw
  exact ⟨rfl, hw.bel⟩
 ·refine xD [0, 2, 3, 1, 4, 5] [0, 2, 3] ?_
  refine dL rfl (vOld rfl rfl (fun h => h) (cellB_get hl rfl)) ?_
  refine dL rfl (vOld rfl rfl (fun h => h) (cellB_get he rfl)) ?_
  refine dL rfl (vOld rfl rfl (fun h => h) (cellB_get hf rfl)) ?_
  refine dW rfl (oR (fun w hw => bound_yes (hbk.up hw.bel) hb)) (fun t11 ht11 => ?_)
  obtain ⟨bp, lb, lv, top⟩ := t11
  obtain ⟨hlv, hin, htop, hge⟩ := ht11
  dsimp only [BdG, List.cons_append, List.nil_append] at hlv hin htop hge ⊢
  obtain ⟨tp, rfl⟩ : ∃ k : Nat, top = k := ⟨top.toNat, by omega⟩
  have h64 := bnd_64 hb
  refine dW rfl (oR (fun w hw => made_yes (hw.ok (bookB bp A Bk.length c lb (tp : Nat)) (by repeat constructor)).1 (hw.ok (mapK Tryz.prog 9 3 kS okS dI lb (4096) lv) (by repeat constructor)).1 (hbk.up hw.bel) h64 (by omega) (hfl.up ES hw.bel) hok hak)) (fun t14 ht14 => ?_)
  obtain ⟨wp, hb', gb, rb, t⟩ := t14
  obtain ⟨hm, hmn, hmo⟩ := ht14
  obtain ⟨m, A0, c0⟩ := t
  dsimp only [MdG, List.cons_append, List.nil_append] at hm hmn hmo ⊢
  rw [hld_of hlv (by omega) (fun x hx => hge _ (hbk.cl x hx).tk)] at hm
  have hmk := hld_ok (ed := ed) (fun x hx => (hbk.cl x hx).tk) hok
  subst hm
  refine s4 ?_
  refine kJ [(3, _), (4, _), (5, _), (6, _), (7, _)] ?_
  refine s1 ?_
  refine aV (vOld rfl rfl (fun h => h) (cellB_get hx rfl)) ?_
  refine aCB (fun w hw => named42 x w hxk) ?_
  refine aBoolT ?_ hnm
  refine aCB (fun w hw => need_yes _ _ w) ?_
  refine s3 ?_
  refine xD [0, 1, 2, 3, 4, 5] [3, 4] ?_
  refine s4 ?_
  refine dL rfl (vOld rfl rfl (fun h => h) (cellB_get hs rfl)) ?_
  refine dPan rfl (ecF rfl rfl) (fun w hw => ix_no (hw.ok (bookB bp A Bk.length c lb (tp : Nat)) (by repeat constructor)).1 h64 (hst.up EI hw.bel) hni) ?_
  refine s1 ?_
  refine JR_panic ?_
  intro w' hw
  exact ⟨rfl, hw.bel⟩
def isV (x : ByteArray) (r : Option Nat × List ByteArray) : Bool := match r.1 with | some _ => false | none => decide (x ∈ r.2)
theorem prvV_eq (x : ByteArray) (r : Option Nat × List ByteArray) : prvV x r = .tuple #[.bool (isV x r), .int .i64 (atV r), .int .i64 0] := by
 obtain ⟨_ | k, K⟩ := r <;> rfl
set_option maxRecDepth 100000 in
set_option maxHeartbeats 4000000 in
theorem q38_yes (Bk : List Cl) (A : Option Addr) (c b5 b6 b7 b9 b8 b10 b11 : Nat) (ed : Int) (fl0 : List ByteArray) (fA0 : Option Addr) (fc0 : Nat) (hok : ∀ s ∈ fl0, okS s) (x : ByteArray) (hxk : okS x) (l : List Int) (lA : Option Addr) (lc : Nat) (hl1 : l.length ≤ 100) (w : World) (hl : (cellB b5 [.slice A Bk.length c] 22).holds w) (he : (cellB b6 [.int .i64 ed] 3).holds w) (hf : (cellB b7 [.slice fA0 fl0.length fc0] 23).holds w) (hx : (cellB b9 [.string x] 9).holds w) (hs : (cellB b8 [.slice lA l.length lc] 24).holds w) (w0 : World) (hbk : BkW w0 Bk A c) (hfl : Arr 1 eS w0 (.slice fA0 fl0.length fc0) fl0) (hst : Arr 1 eI w0 (.slice lA l.length lc) l) (hb0 : Below w0.heap.size w0 w) (hA : (unI (cellB b10 [.bool false] 4) (cellB b11 [.int .i64 0] 3)).holds w) (hAf : ∀ b, (unI (cellB b10 [.bool false] 4) (cellB b11 [.int .i64 0] 3)).foot b → b < w.heap.size) (hA0 : ∀ b, (unI (cellB b10 [.bool false] 4) (cellB b11 [.int .i64 0] 3)).foot b → w0.heap.size ≤ b) (hn5 : ¬ (unI (cellB b10 [.bool false] 4) (cellB b11 [.int .i64 0] 3)).foot b5) (hn6 : ¬ (unI (cellB b10 [.bool false] 4) (cellB b11 [.int .i64 0] 3)).foot b6) (hn7 : ¬ (unI (cellB b10 [.bool false] 4) (cellB b11 [.int .i64 0] 3)).foot b7) (hn9 : ¬ (unI (cellB b10 [.bool false] 4) (cellB b11 [.int .i64 0] 3)).foot b9) (hn8 : ¬ (unI (cellB b10 [.bool false] 4) (cellB b11 [.int .i64 0] 3)).foot b8) (hq : prvQ Bk ed fl0 x l = none) : Calls Tryz.prog 38 #[.pointer (some ⟨b5, 0, none⟩), .pointer (some ⟨b6, 0, none⟩), .pointer (some ⟨b7, 0, none⟩), .pointer (some ⟨b9, 0, none⟩), .pointer (some ⟨b8, 0, none⟩), .pointer (some ⟨b10, 0, none⟩), .pointer (some ⟨b11, 0, none⟩)] w (RetM (unI (cellB b10 [.bool false] 4) (cellB b11 [.int .i64 0] 3)) (fun _ : Unit => True) (fun _ => .tuple #[]) (fun _ => unI (cellB b10 [.bool (isV x (prv Bk ed (hldM Bk ed fl0).S l 0 fl0.reverse))] 4) (cellB b11 [.int .i64 (atV (prv Bk ed (hldM Bk ed fl0).S l 0 fl0.reverse))] 3)) w) := by
 obtain ⟨hk, hnm, hni⟩ := prv_hq hq
 obtain ⟨hb, hak⟩ := hld_parts hk
 refine J_start (B := ⟨w, (unI (cellB b10 [.bool false] 4) (cellB b11 [.int .i64 0] 3)).foot, none, []⟩) rfl rfl (vs := [.pointer (some ⟨b5, 0, none⟩), .pointer (some ⟨b6, 0, none⟩), .pointer (some ⟨b7, 0, none⟩), .pointer (some ⟨b9, 0, none⟩), .pointer (some ⟨b8, 0, none⟩), .pointer (some ⟨b10, 0, none⟩), .pointer (some ⟨b11, 0, none⟩)]) (k := 31) (l := [(0, .pointer (some ⟨b5, 0, none⟩)), (1, .pointer (some ⟨b6, 0, none⟩)), (2, .pointer (some ⟨b7, 0, none⟩)), (3, .pointer (some ⟨b9, 0, none⟩)), (4, .pointer (some ⟨b8, 0, none⟩)), (5, .pointer (some ⟨b10, 0, none⟩)), (6, .pointer (some ⟨b11, 0, none⟩))]) Tryz.func38 rfl rfl Tryz.ntmps38 rfl rfl (Wd.startM hA hAf) ?_
 refine s1 ?_
 refine J_split ?_
 refine xD [0, 2, 3, 1, 4, 5] [0, 2, 3] ?_
 refine dL rfl (vOld rfl rfl hn5 (cellB_get hl rfl)) ?_
 refine dL rfl (vOld rfl rfl hn6 (cellB_get he rfl)) ?_
 refine dL rfl (vOld rfl rfl hn7 (cellB_get hf rfl)) ?_
 refine dW rfl (oR (fun w hw => bound_yes (hbk.up (Wd.belO hw hb0 hA0)) hb)) (fun t11 ht11 => ?_)
 obtain ⟨bp, lb, lv, top⟩ := t11
 obtain ⟨hlv, hin, htop, hge⟩ := ht11
 dsimp only [BdG, List.cons_append, List.nil_append] at hlv hin htop hge ⊢
 obtain ⟨tp, rfl⟩ : ∃ k : Nat, top = k := ⟨top.toNat, by omega⟩
 have h64 := bnd_64 hb
 refine dW rfl (oR (fun w hw => made_yes (hw.ok (bookB bp A Bk.length c lb (tp : Nat)) (by repeat constructor)).1 (hw.ok (mapK Tryz.prog 9 3 kS okS dI lb (4096) lv) (by repeat constructor)).1 (hbk.up (Wd.belO hw hb0 hA0)) h64 (by omega) (hfl.up ES (Wd.belO hw hb0 hA0)) hok hak)) (fun t14 ht14 => ?_)
 obtain ⟨wp, hb', gb, rb, t⟩ := t14
 obtain ⟨hm, hmn, hmo⟩ := ht14
 obtain ⟨m, A0, c0⟩ := t
 dsimp only [MdG, List.cons_append, List.nil_append] at hm hmn hmo ⊢
 rw [hld_of hlv (by omega) (fun x hx => hge _ (hbk.cl x hx).tk)] at hm
 have hmk := hld_ok (ed := ed) (fun x hx => (hbk.cl x hx).tk) hok
 subst hm
 refine s4 ?_
 refine kJ [(3, _), (4, _), (5, _), (6, _), (7, _)] ?_
 refine s1 ?_
 refine aV (vOld rfl rfl hn9 (cellB_get hx rfl)) ?_
 refine aCB (fun w hw => named42 x w hxk) ?_
 refine aBoolT ?_ hnm
 refine aCB (fun w hw => need_yes _ _ w) ?_
 refine s3 ?_
 refine xD [0, 1, 2, 3, 4, 5] [3, 4] ?_
 refine s4 ?_
 refine dL rfl (vOld rfl rfl hn8 (cellB_get hs rfl)) ?_
 refine dCB rfl (fun w hw => ix_yes (hw.ok (bookB bp A Bk.length c lb (tp : Nat)) (by repeat constructor)).1 h64 (hst.up EI (Wd.belO hw hb0 hA0)) hni) ?_
 refine s3 ?_
 refine kJ [(3, _), (4, _), (5, _), (6, _), (7, _)] ?_
 refine s2 ?_
 refine aV (vOld rfl rfl hn8 (cellB_get hs rfl)) ?_
 refine aW (oR (fun w hw => broken44 (bc := c) (BA := A) (top := (tp : Nat)) (lb := lb) (s := ⟨(hldM Bk ed fl0), A0, c0⟩) (bp := bp) (hb := hb') (gb := gb) (rb := rb) (S := (hldM Bk ed fl0).S) (K0 := fl0.reverse) l _ _ w (hbk.up (Wd.belO hw hb0 hA0)) (hw.ok (recB wp bp hb' gb rb ed ⟨(hldM Bk ed fl0), A0, c0⟩) (by repeat constructor)).1 (hw.ok (bookB bp A Bk.length c lb (tp : Nat)) (by repeat constructor)).1 (hw.ok (setB Tryz.prog 9 kS okS hb' (hldM Bk ed fl0).S) (by repeat constructor)).1 (hw.ok (setB Tryz.prog 9 kS okS gb fl0.reverse) (by repeat constructor)).1 (by rw [List.length_reverse]; exact ask_64 hak) (hst.up EI (Wd.belO hw hb0 hA0)) hl1 hni)) (fun kb _ => ?_)
 refine s7 ?_
 obtain ⟨ro, K, hr⟩ : ∃ a b, (prv Bk ed (hldM Bk ed fl0).S l 0 fl0.reverse) = (a, b) := ⟨_, _, rfl⟩
 rw [hr]
 rcases ro with _ | k
 ·rw [show atV (none, K) = -1 from rfl]
  dsimp only
  refine kJ [(3, _), (5, _), (6, _), (8, _), (9, _)] ?_
  refine s3 ?_
  refine aDecT ?_ (by decide)
  refine s2 ?_
  refine aV (vOld rfl rfl hn9 (cellB_get hx rfl)) ?_
  refine aV (rv_lookS KS LBool x Und.h rfl rfl rfl (by repeat constructor) rfl hxk) ?_
  refine s5 ?_
  refine JR_end rfl ?_
  intro w' hw
  exact ⟨(), trivial, rfl, Wd.unite (hw.pick (by repeat constructor)) rfl rfl⟩
 ·rw [show atV (some k, K) = ((k : Nat) : Int) from rfl]
  dsimp only
  refine kJ [(3, _), (5, _), (6, _), (8, _), (9, _)] ?_
  refine s3 ?_
  refine aDecF ?_
  refine s9 ?_
  refine JR_end rfl ?_
  intro w' hw
  exact ⟨(), trivial, rfl, Wd.unite (hw.pick (by repeat constructor)) rfl rfl⟩
theorem prv_ne {Bk : List Cl} {ed : Int} {fl0 : List ByteArray} {x : ByteArray} {l : List Int} {a n : Int} (h : prvQ Bk ed fl0 x l = some (a, n)) : n ≠ 0 := by
 unfold prvQ at h
 obtain hk | ⟨a', n', hk⟩ := opt2 (hldQ Bk ed fl0)
 ·rw [hk] at h; dsimp only at h
  split at h
  ·split at h <;> cases h; decide
  ·cases h; decide
 ·rw [hk] at h; cases h; exact hld_ne hk
set_option maxRecDepth 100000 in
set_option maxHeartbeats 4000000 in
theorem Proves12 (Bk : List Cl) (A : Option Addr) (c : Nat) (ed : Int) (fl0 : List ByteArray) (fA0 : Option Addr) (fc0 : Nat) (l : List Int) (lA : Option Addr) (lc : Nat) (x : ByteArray) (hok : ∀ s ∈ fl0, okS s) (hxk : okS x) (w : World) (hbk : BkW w Bk A c) (hfl : Arr 1 eS w (.slice fA0 fl0.length fc0) fl0) (hst : Arr 1 eI w (.slice lA l.length lc) l) (hl1 : l.length ≤ 100) : Calls Tryz.prog 12 #[.slice A Bk.length c, .int .i64 ed, .slice fA0 fl0.length fc0, .slice lA l.length lc, .string x] w (Back (prvR Bk ed fl0 x l) w) := by
 refine J_enter (fun _ => False) (vs := [.slice A Bk.length c, .int .i64 ed, .slice fA0 fl0.length fc0, .slice lA l.length lc, .string x]) (k := 18) (l := [(0, .slice A Bk.length c), (1, .int .i64 ed), (2, .slice fA0 fl0.length fc0), (3, .slice lA l.length lc), (4, .string x)]) Tryz.func12 rfl rfl Tryz.ntmps12 rfl rfl (Wd.start _) ?_
 refine s2 ?_
 refine aW (oX [_]) (fun b5 hb5 => ?_)
 refine aW (oX [_]) (fun b6 hb6 => ?_)
 refine aW (oX [_]) (fun b7 hb7 => ?_)
 refine aW (oX [_]) (fun b8 hb8 => ?_)
 refine aW (oX [_]) (fun b9 hb9 => ?_)
 refine aW oA (fun b10 hb10 => ?_)
 refine aW oA (fun b11 hb11 => ?_)
 refine s4 ?_
 obtain hq | ⟨a, n, hq⟩ := opt2 (prvQ Bk ed fl0 x l)
 ·refine kJ [(5, _), (6, _), (7, _), (8, _), (9, _), (10, _), (11, _)] ?_
  refine s2 ?_
  refine JL_unite (cellB b11 [.int .i64 0] 3) (cellB b10 [.bool false] 4) ?_
  refine aW (oM (fun w hw => answered_yes 38 #[.pointer (some ⟨b5, 0, none⟩), .pointer (some ⟨b6, 0, none⟩), .pointer (some ⟨b7, 0, none⟩), .pointer (some ⟨b9, 0, none⟩), .pointer (some ⟨b8, 0, none⟩), .pointer (some ⟨b10, 0, none⟩), .pointer (some ⟨b11, 0, none⟩)] (unI (cellB b10 [.bool false] 4) (cellB b11 [.int .i64 0] 3)) (fun _ : Unit => True) (fun _ => unI (cellB b10 [.bool (isV x (prv Bk ed (hldM Bk ed fl0).S l 0 fl0.reverse))] 4) (cellB b11 [.int .i64 (atV (prv Bk ed (hldM Bk ed fl0).S l 0 fl0.reverse))] 3)) w (hw.ok (unI (cellB b10 [.bool false] 4) (cellB b11 [.int .i64 0] 3)) (by repeat constructor)).1 (hw.newA (by repeat constructor) rfl).2 rfl (fun _ => rfl) (fun W hW => q38_yes Bk A c b5 b6 b7 b9 b8 b10 b11 ed fl0 fA0 fc0 hok x hxk l lA lc hl1 W (hw.keepO (C := cellB b5 [.slice A Bk.length c] 22) hW (by repeat constructor) rfl).1 (hw.keepO (C := cellB b6 [.int .i64 ed] 3) hW (by repeat constructor) rfl).1 (hw.keepO (C := cellB b7 [.slice fA0 fl0.length fc0] 23) hW (by repeat constructor) rfl).1 (hw.keepO (C := cellB b9 [.string x] 9) hW (by repeat constructor) rfl).1 (hw.keepO (C := cellB b8 [.slice lA l.length lc] 24) hW (by repeat constructor) rfl).1 _ hbk hfl hst (hw.belM (A := unI (cellB b10 [.bool false] 4) (cellB b11 [.int .i64 0] 3)) (by repeat constructor) rfl hW) (hW.ok (unI (cellB b10 [.bool false] 4) (cellB b11 [.int .i64 0] 3)) (by repeat constructor)).1 (fun b hb => ((hW.ok (unI (cellB b10 [.bool false] 4) (cellB b11 [.int .i64 0] 3)) (by repeat constructor)).2 b hb).2) (hw.newA (by repeat constructor) rfl).1 ((hw.keepO (C := cellB b5 [.slice A Bk.length c] 22) hW (by repeat constructor) rfl).2 b5 rfl) ((hw.keepO (C := cellB b6 [.int .i64 ed] 3) hW (by repeat constructor) rfl).2 b6 rfl) ((hw.keepO (C := cellB b7 [.slice fA0 fl0.length fc0] 23) hW (by repeat constructor) rfl).2 b7 rfl) ((hw.keepO (C := cellB b9 [.string x] 9) hW (by repeat constructor) rfl).2 b9 rfl) ((hw.keepO (C := cellB b8 [.slice lA l.length lc] 24) hW (by repeat constructor) rfl).2 b8 rfl) hq))) (fun _ _ => ?_)
  refine JL_split ?_
  refine s8 ?_
  refine kJ [(10, _), (11, _), (12, _)] ?_
  refine s3 ?_
  refine aDecF ?_ (by decide)
  refine s6 ?_
  refine xDx [0, 1, 2, 3, 4] [0] [1] [cellB b11 [.int .i64 (atV (prv Bk ed (hldM Bk ed fl0).S l 0 fl0.reverse))] 3] ?_
  refine s3 ?_
  refine dW0 rfl wAnyS ?_ (hm := by exact ⟨by kernel_rfl, .inl (by kernel_rfl)⟩)
  refine s4 ?_
  refine JR_three rfl (rr_cell rfl Agg.h (by repeat constructor) (by rfl)) (rr_cell rfl Agg.h (by repeat constructor) (by rfl)) (rr_tmp rfl) ?_
  intro w' hw
  exact ⟨by unfold prvR; rw [hq]; dsimp only; rw [prvV_eq], hw.bel⟩
 ·have hnz := prv_ne hq
  refine kJ [(5, _), (6, _), (7, _), (8, _), (9, _), (10, _), (11, _)] ?_
  refine s2 ?_
  refine aCB (fun w hw => answered_no 38 #[.pointer (some ⟨b5, 0, none⟩), .pointer (some ⟨b6, 0, none⟩), .pointer (some ⟨b7, 0, none⟩), .pointer (some ⟨b9, 0, none⟩), .pointer (some ⟨b8, 0, none⟩), .pointer (some ⟨b10, 0, none⟩), .pointer (some ⟨b11, 0, none⟩)] a n w (fun W hW => q38_no Bk A c b5 b6 b7 b9 b8 b10 b11 ed fl0 fA0 fc0 hok x hxk l lA lc W ((cellB b5 [.slice A Bk.length c] 22).st _ _ (fun b h => hW.block b ((hw.ok _ (by repeat constructor)).2 b h).2) (hw.ok (cellB b5 [.slice A Bk.length c] 22) (by repeat constructor)).1) ((cellB b6 [.int .i64 ed] 3).st _ _ (fun b h => hW.block b ((hw.ok _ (by repeat constructor)).2 b h).2) (hw.ok (cellB b6 [.int .i64 ed] 3) (by repeat constructor)).1) ((cellB b7 [.slice fA0 fl0.length fc0] 23).st _ _ (fun b h => hW.block b ((hw.ok _ (by repeat constructor)).2 b h).2) (hw.ok (cellB b7 [.slice fA0 fl0.length fc0] 23) (by repeat constructor)).1) ((cellB b9 [.string x] 9).st _ _ (fun b h => hW.block b ((hw.ok _ (by repeat constructor)).2 b h).2) (hw.ok (cellB b9 [.string x] 9) (by repeat constructor)).1) ((cellB b8 [.slice lA l.length lc] 24).st _ _ (fun b h => hW.block b ((hw.ok _ (by repeat constructor)).2 b h).2) (hw.ok (cellB b8 [.slice lA l.length lc] 24) (by repeat constructor)).1) ((hbk.up hw.bel).up hW) ((hfl.up ES hw.bel).up ES hW) ((hst.up EI hw.bel).up EI hW) hq)) ?_
  refine s8 ?_
  refine kJ [(10, _), (11, _), (12, _)] ?_
  refine s3 ?_
  refine aDecT ?_ hnz
  refine s13 ?_
  refine JR_three rfl (rr_cell rfl Agg.h (by repeat constructor) (by rfl)) (rr_cell rfl Agg.h (by repeat constructor) (by rfl)) (rr_tmp rfl) ?_
  intro w' hw
  exact ⟨by unfold prvR; rw [hq], hw.bel⟩
end Go.Proofs.YtjkolebffbeeeaaGreatDoor
