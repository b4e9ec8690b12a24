/- The program: less, Changed. -/
import Derived.Test.YtjkolebffbeeeaaGreatDoorXd
namespace Go.Proofs.YtjkolebffbeeeaaGreatDoor
open Go Go.RowKit Go.Proofs
attribute [local irreducible] J JQ JL JA JD

set_option maxRecDepth 100000 in
set_option maxHeartbeats 4000000 in
theorem Clone84 (l : List ByteArray) (A : Option Addr) (c : Nat) (w : World) (hl : Arr 1 eS w (.slice A l.length c) l) (hn : l.length ≤ 1000) : Calls Tryz.prog 84 #[.slice A l.length c] w (RetS 9 1 eS l w) := by
 obtain ⟨hlb, hlA⟩ := arr_parts hl
 refine J_enter (fun _ => False) (vs := [.slice A l.length c]) (k := 7) (l := [(0, .slice A l.length c)]) Tryz.func84 rfl rfl Tryz.ntmps84 rfl rfl (Wd.start _) ?_
 refine s7 ?_
 rcases A with _ | a
 ·obtain rfl : l = [] := by
   rcases l with _ | ⟨x, l⟩
   ·rfl
   ·obtain ⟨b, q, e, -⟩ := hlA (by simp); cases e
  refine s2 ?_
  refine aP (pSlNil rfl rfl) ?_
  refine s4 ?_
  refine J_own0 9 1 ?_
  refine kJ [] ?_
  refine s6 ?_
  refine JR_one rfl (rr_tmp rfl) ?_
  intro w' hw
  exact ⟨none, 0, rfl, hw.pick (by repeat constructor)⟩
 ·refine s2 ?_
  refine aP (pSlNil rfl rfl) ?_
  refine s7 ?_
  refine aW (ow_slice0 (k := 1) (ty := 9) rfl rfl rfl (fun _ => by kernel_rfl)) (fun b5 hb5 => ?_)
  refine s1 ?_
  refine aS (oAppX (sl := 23) ES ([] : List ByteArray) l (fun w hw => hl.up ES hw.bel) rfl (Nat.le_refl _) (hl := by rw [List.length_nil]; omega)) (fun A7 c7 => ?_)
  refine s4 ?_
  refine JR_one rfl (rr_tmp rfl) ?_
  intro w' hw
  exact ⟨A7, c7, rfl, hw.pick (by repeat constructor)⟩
set_option maxRecDepth 100000 in
set_option maxHeartbeats 4000000 in
theorem less85 (x : ByteArray) (S : List ByteArray) (b c : Nat) (w : World) (hc : w.cell? ⟨c, 0, none⟩ = some (.map (some b))) (hS : (setB Tryz.prog 9 kS okS b S).holds w) (hx : okS x) : Calls Tryz.prog 85 #[.string x, .pointer (some ⟨c, 0, none⟩)] w (Back (.bool (decide (x ∈ S))) w) := by
 refine J_enter (fun _ => False) (vs := [.string x, .pointer (some ⟨c, 0, none⟩)]) (k := 5) (l := [(0, .string x), (1, .pointer (some ⟨c, 0, none⟩))]) Tryz.func85 rfl rfl Tryz.ntmps85 rfl rfl (Wd.start _) ?_
 refine s7 ?_
 refine aV (vOld rfl rfl (fun h => h) hc) ?_
 refine s1 ?_
 refine aV (rv_lookSO KS LBool x Und.h rfl rfl rfl (fun h => h) hS rfl hx) ?_
 refine s4 ?_
 refine JR_one rfl (rr_tmp rfl) ?_
 intro w' hw
 exact ⟨rfl, hw.bel⟩
theorem ixF_cs (p : ByteArray → Bool) : ∀ (l : List ByteArray) (k : Nat), (ixF p l k = -1 ∧ l.filter (fun x => !p x) = l) ∨ ∃ j, j < l.length ∧ ixF p l k = ((k + j : Nat) : Int) ∧ l.take j = (l.take (j + 1)).filter (fun x => !p x)
 | [], _ => .inl ⟨rfl, rfl⟩
 | x :: l, k => by
  unfold ixF
  cases hp : p x with
  | true => exact .inr ⟨0, by simp, by simp, by simp [hp]⟩
  | false =>
   rcases ixF_cs p l (k + 1) with ⟨h1, h2⟩ | ⟨j, h1, h2, h3⟩
   ·exact .inl ⟨by rw [if_neg (by decide)]; exact h1, by rw [List.filter_cons, hp, if_pos (by decide), h2]⟩
   ·refine .inr ⟨j + 1, by rw [List.length_cons]; omega, ?_, ?_⟩
    ·rw [if_neg (by decide), h2]; congr 1; omega
    ·rw [List.take_succ_cons, List.take_succ_cons, List.filter_cons, hp, if_pos (by decide), h3]
set_option maxRecDepth 100000 in
set_option maxHeartbeats 4000000 in
theorem DeleteFunc83 (f : FuncId) (caps : Array Value) (p : ByteArray → Bool) (l : List ByteArray) (A : Option Addr) (c : Nat) (w : World) [hf : Cf Tryz.prog f] (hl : l.length ≤ 1000) (hA : (ownB 9 1 A l.length c (l.flatMap eS)).holds w) (hAf : ∀ b, (ownB 9 1 A l.length c (l.flatMap eS)).foot b → b < w.heap.size) (hcl : ∀ x ∈ l, ∀ W, Wd ⟨w, (ownB 9 1 A l.length c (l.flatMap eS)).foot, none, []⟩ [] W → Calls Tryz.prog f (#[] ++ #[.string x] ++ caps) W (Back (.bool (p x)) W)) : Calls Tryz.prog 83 #[.slice A l.length c, .func (.func f) #[] caps] w (RetM (ownB 9 1 A l.length c (l.flatMap eS)) (fun _ : Unit => True) (fun _ => .slice A (l.filter (fun x => !p x)).length c) (fun _ => ownB 9 1 A (l.filter (fun x => !p x)).length c ((l.filter (fun x => !p x)).flatMap eS)) w) := by
 refine J_start (B := ⟨w, (ownB 9 1 A l.length c (l.flatMap eS)).foot, none, []⟩) rfl rfl (vs := [.slice A l.length c, .func (.func f) #[] caps]) (k := 40) (l := [(0, .slice A l.length c), (1, .func (.func f) #[] caps)]) Tryz.func83 rfl rfl Tryz.ntmps83 rfl rfl (Wd.startM hA hAf) ?_
 refine s9 ?_
 refine aCB (fun w hw => IndexFunc101 f caps p l _ w (fun x hx W hW => hcl x hx W ((hw.up hW).pick (Pk.nil _))) (own_arr ES hw (by repeat constructor) (by omega))) ?_
 refine s5 ?_
 rcases ixF_cs p l 0 with ⟨hk1, hk2⟩ | ⟨k0, hk1, hk2, hk3⟩
 ·rw [hk1]
  refine kJ [(0, _), (1, _), (5, _)] ?_
  refine s3 ?_
  refine aDecT ?_
  refine s4 ?_
  refine kJ [(0, _)] ?_
  refine s7 ?_
  refine JR_one rfl (rr_tmp rfl) ?_
  intro w' hw
  exact ⟨(), trivial, by rw [hk2], by dsimp only; rw [hk2]; exact hw.pick (by repeat constructor)⟩
 ·rw [hk2, Nat.zero_add]
  refine J_fact (fun hw => ?_)
  obtain ⟨g, rfl⟩ := own_some hw (ty := 9) (k := 1) (m := l.length) (c := c) (A := A) (xs := l.flatMap eS) (by repeat constructor) (by omega)
  clear hw
  refine kJ [(0, _), (1, _), (5, _)] ?_
  refine s3 ?_
  refine aDecF ?_
  refine s14 ?_
  refine xL (T := Nat × Nat × List ByteArray) (fun q => (q.1 < q.2.1 ∧ q.2.1 ≤ l.length) ∧ q.2.2.length = l.length ∧ q.2.2.take q.1 = (l.take q.2.1).filter (fun x => !p x) ∧ q.2.2.drop q.2.1 = l.drop q.2.1) (fun q => [(0, .slice (some ⟨g, 0, none⟩) l.length c), (1, .func (.func f) #[] caps), (5, .int .i64 (q.1 : Nat)), (6, .int .i64 (q.2.1 : Nat))]) (fun q => [ownB 9 1 (some ⟨g, 0, none⟩) l.length c (q.2.2.flatMap eS)]) (fun q => l.length - q.2.1) (k0, k0 + 1, l) ⟨⟨by dsimp only; omega, by dsimp only; omega⟩, rfl, hk3, rfl⟩ ?_
  rintro ⟨i, j, Mm⟩ ⟨⟨hij, hj⟩, hML, hM1, hM2⟩
  dsimp only at hij hj hML hM1 hM2 ⊢
  refine s7 ?_
  refine JL_dec (fun h19 => ?_) (fun h19 => ?_)
  ·refine s8 ?_
   have hjl : j < l.length := by omega
   have hjM : j < Mm.length := by omega
   obtain ⟨z, hz⟩ : ∃ z, l[j]'hjl = z := ⟨_, rfl⟩
   have hmz : z ∈ l := by rw [← hz]; exact List.getElem_mem _
   have hjz : Mm[j]'hjM = z := by
    have h1 : (Mm.drop j)[0]? = (l.drop j)[0]? := by rw [hM2]
    rw [List.getElem?_drop, List.getElem?_drop, Nat.add_zero, List.getElem?_eq_getElem hjl, List.getElem?_eq_getElem hjM] at h1
    rw [← hz]; exact Option.some.inj h1
   refine kJ [(0, _), (1, _), (5, _), (6, _)] ?_
   refine s4 ?_
   refine aV (vOwn ES rfl rfl (by repeat constructor) hjM (by omega) (by rw [hjz]; rfl)) ?_
   refine s4 ?_
   refine kJ [(0, _), (1, _), (5, _), (6, _), (7, _)] ?_
   refine s3 ?_
   refine aW (ow_callB (ec_val rfl rfl rfl Cf.h) rfl rfl (fun w hw => hcl z hmz w (hw.pick (Pk.nil _)))) (fun _ _ => ?_)
   refine JL_bool (fun h28 => ?_) (fun h28 => ?_)
   ·refine s7 ?_
    refine kJ [(0, _), (1, _), (5, _), (6, _)] ?_
    refine s5 ?_
    have hst : (l.take (j + 1)).filter (fun x => !p x) = (l.take j).filter (fun x => !p x) := by rw [List.take_succ_eq_append_getElem hjl, List.filter_append, hz]; simp [h28]
    have hdr : Mm.drop (j + 1) = l.drop (j + 1) := by rw [List.drop_eq_getElem_cons hjl, List.drop_eq_getElem_cons hjM] at hM2; injection hM2
    exact xR (i, j + 1, Mm) ⟨⟨by dsimp only; omega, by dsimp only; omega⟩, hML, by dsimp only; rw [hst]; exact hM1, hdr⟩ (by dsimp only; omega) (hl := ⟨rfl, rfl, rfl, (congrArg some (by go_num)), trivial⟩)
   ·refine s5 ?_
    refine kJ [(0, _), (1, _), (5, _), (6, _), (7, _)] ?_
    refine s4 ?_
    refine aP (pIdxI (i) rfl rfl rfl) ?_
    refine aW0 (oStE ES [_] z (show i < Mm.length by omega) (hi := Nat.le_refl _)) ?_
    refine s2 ?_
    refine kJ [(0, _), (1, _), (5, _), (6, _)] ?_
    refine s12 ?_
    have hst : (l.take (j + 1)).filter (fun x => !p x) = (l.take j).filter (fun x => !p x) ++ [z] := by rw [List.take_succ_eq_append_getElem hjl, List.filter_append, hz]; simp [h28]
    have hdr : Mm.drop (j + 1) = l.drop (j + 1) := by rw [List.drop_eq_getElem_cons hjl, List.drop_eq_getElem_cons hjM] at hM2; injection hM2
    have htk : (Mm.set i z).take (i + 1) = Mm.take i ++ [z] := by
     rw [List.take_succ_eq_append_getElem (by rw [List.length_set]; omega), List.getElem_set_self, List.take_set_of_le (Nat.le_refl i)]
    have hds : (Mm.set i z).drop (j + 1) = Mm.drop (j + 1) := List.drop_set_of_lt (by omega)
    exact xR (i + 1, j + 1, Mm.set i z) ⟨⟨by dsimp only; omega, by dsimp only; omega⟩, by dsimp only; rw [List.length_set]; exact hML, by dsimp only; rw [htk, hM1, hst], by dsimp only; rw [hds, hdr]⟩ (by dsimp only; omega) (hl := ⟨rfl, rfl, (congrArg some (by go_num)), (congrArg some (by go_num)), trivial⟩)
  ·refine s9 ?_
   obtain rfl : j = l.length := by omega
   refine J_fact (fun hw => ?_)
   obtain ⟨hc1, hc2⟩ := (own_cn hw (ty := 9) (k := 1) (m := l.length) (c := c) (A := some ⟨g, 0, none⟩) (xs := Mm.flatMap eS) (by repeat constructor)).1
   clear hw
   have hfi : Mm.take i = l.filter (fun x => !p x) := by rw [hM1, List.take_length]
   have hil : (Mm.take i).length = i := by rw [List.length_take]; omega
   refine kJ [(0, _), (5, _)] ?_
   refine s3 ?_
   refine aP (rp_sliceFrom (k := i) rfl rfl rfl Und.h Siz.h rfl (by omega)) ?_
   refine aW0 (oClr (t := 23) ES Mm [.string ⟨#[]⟩] hML.symm (show i ≤ Mm.length by omega)) ?_
   refine s6 ?_
   refine aP (rp_sliceTo (k := i) rfl rfl rfl Und.h Siz.h rfl (by omega)) ?_
   refine s4 ?_
   refine JR_one rfl (rr_tmp rfl) ?_
   intro w' hw
   exact ⟨(), trivial, by rw [← hfi, hil], by dsimp only; rw [← hfi, hil]; exact hw.pick (by repeat constructor)⟩
set_option maxRecDepth 100000 in
set_option maxHeartbeats 4000000 in
theorem less68 (l m : List ByteArray) (A : Option Addr) (c : Nat) (mA : Option Addr) (mc : Nat) (w : World) (hl : Arr 1 eS w (.slice A l.length c) l) (hm : Arr 1 eS w (.slice mA m.length mc) m) (hn : l.length ≤ 1000) (hmn : m.length ≤ 1000) (hlk : ∀ s ∈ l, okS s) (hmk : ∀ s ∈ m, okS s) : Calls Tryz.prog 68 #[.slice A l.length c, .slice mA m.length mc] w (RetS 9 1 eS (lesL l m) w) := by
 refine J_enter (fun _ => False) (vs := [.slice A l.length c, .slice mA m.length mc]) (k := 10) (l := [(0, .slice A l.length c), (1, .slice mA m.length mc)]) Tryz.func68 rfl rfl Tryz.ntmps68 rfl rfl (Wd.start _) ?_
 refine s8 ?_
 refine aW (oR (fun w hw => of63 m _ w (hm.up ES hw.bel) hmk (by omega))) (fun b7 _ => ?_)
 refine aW oA (fun b5 hb5 => ?_)
 refine s4 ?_
 refine kJ [(0, _), (5, _)] ?_
 refine s2 ?_
 refine aS (oS (fun w hw => Clone84 l _ _ w (hl.up ES hw.bel) hn)) (fun A9 c9 => ?_)
 refine s1 ?_
 refine aW (oM (fun w hw => DeleteFunc83 85 #[.pointer (some ⟨b5, 0, none⟩)] (fun x => decide (x ∈ m.reverse)) l A9 c9 w hn (hw.ok (ownB 9 1 A9 l.length c9 (l.flatMap eS)) (by repeat constructor)).1 (hw.newA (A := ownB 9 1 A9 l.length c9 (l.flatMap eS)) (by repeat constructor) rfl).2 (fun x hx W hW => less85 x m.reverse b7 b5 W (cellB_get (hw.keepO (A := ownB 9 1 A9 l.length c9 (l.flatMap eS)) (C := cellB b5 [.map (some b7)] 68) hW (by repeat constructor) rfl).1 rfl) (hw.keepO (A := ownB 9 1 A9 l.length c9 (l.flatMap eS)) (C := setB Tryz.prog 9 kS okS b7 m.reverse) hW (by repeat constructor) rfl).1 (hlk x hx)))) (fun _ _ => ?_)
 refine s4 ?_
 refine JR_one rfl (rr_tmp rfl) ?_
 intro w' hw
 have e : l.filter (fun x => !decide (x ∈ m.reverse)) = lesL l m := by unfold lesL; simp only [List.mem_reverse]
 rw [e] at hw
 exact ⟨A9, c9, by rw [e], hw.pick (by repeat constructor)⟩
def chgQ (Bk : List Cl) (e1 e2 : Int) (fl0 : List ByteArray) : Option (Int × Int) := match hldQ Bk e1 fl0 with
 | some r => some r
 | none => hldQ Bk e2 fl0
theorem chg_cs {Bk : List Cl} {e1 e2 : Int} {fl0 : List ByteArray} {a n : Int} (h : chgQ Bk e1 e2 fl0 = some (a, n)) : (∃ a' n', bndF Bk = some (a', n') ∧ a' = a ∧ n' = n) ∨ (bndF Bk = none ∧ ¬ askB e1 fl0 = true ∧ a = -1 ∧ n = 2) ∨ (bndF Bk = none ∧ askB e1 fl0 = true ∧ ¬ askB e2 fl0 = true ∧ a = -1 ∧ n = 2) := by
 unfold chgQ at h
 obtain hk | ⟨a', n', hk⟩ := opt2 (hldQ Bk e1 fl0)
 ·obtain ⟨hb, hak⟩ := hld_parts hk
  rw [hk] at h
  obtain ⟨h1, h2⟩ := hld_q2 hb h
  exact .inr (.inr ⟨hb, hak, h2, h1⟩)
 ·rw [hk] at h; cases h
  obtain hb | ⟨a', n', hb⟩ := opt2 (bndF Bk)
  ·obtain ⟨h1, h2⟩ := hld_q2 hb hk; exact .inr (.inl ⟨hb, h2, h1⟩)
  ·obtain ⟨rfl, rfl⟩ := hld_q1 hb hk; exact .inl ⟨_, _, hb, rfl, rfl⟩
theorem chg_hq {Bk : List Cl} {e1 e2 : Int} {fl0 : List ByteArray} (h : chgQ Bk e1 e2 fl0 = none) : bndF Bk = none ∧ askB e1 fl0 = true ∧ askB e2 fl0 = true := by
 unfold chgQ at h
 cases hb : hldQ Bk e1 fl0 with
 | some r => rw [hb] at h; cases h
 | none => rw [hb] at h; exact ⟨(hld_parts hb).1, (hld_parts hb).2, (hld_parts h).2⟩
theorem sop_ok {Bk : List Cl} {ed : Int} {fl0 L : List ByteArray} (h : SoP (hldM Bk ed fl0).S L) (h1 : ∀ c ∈ Bk, okS c.th) (h2 : ∀ s ∈ fl0, okS s) : ∀ s ∈ L, okS s := fun s hs => hld_ok h1 h2 s ((h.mem s).1 hs)
set_option maxRecDepth 100000 in
set_option maxHeartbeats 4000000 in
theorem q67_no (Bk : List Cl) (A : Option Addr) (c b4 b5 b7 b6 b8 b9 : Nat) (e1 e2 : Int) (fl0 : List ByteArray) (fA0 : Option Addr) (fc0 : Nat) (hok : ∀ s ∈ fl0, okS s) (w : World) (hl : (cellB b4 [.slice A Bk.length c] 22).holds w) (he : (cellB b5 [.int .i64 e1] 3).holds w) (hf : (cellB b7 [.slice fA0 fl0.length fc0] 23).holds w) (ht : (cellB b6 [.int .i64 e2] 3).holds w) (hbk : BkW w Bk A c) (hfl : Arr 1 eS w (.slice fA0 fl0.length fc0) fl0) {a n : Int} (hq : chgQ Bk e1 e2 fl0 = some (a, n)) : Calls Tryz.prog 67 #[.pointer (some ⟨b4, 0, none⟩), .pointer (some ⟨b5, 0, none⟩), .pointer (some ⟨b7, 0, none⟩), .pointer (some ⟨b6, 0, none⟩), .pointer (some ⟨b8, 0, none⟩), .pointer (some ⟨b9, 0, none⟩)] w (Fails a n w) := by
 refine J_enter (fun _ => False) (vs := [.pointer (some ⟨b4, 0, none⟩), .pointer (some ⟨b5, 0, none⟩), .pointer (some ⟨b7, 0, none⟩), .pointer (some ⟨b6, 0, none⟩), .pointer (some ⟨b8, 0, none⟩), .pointer (some ⟨b9, 0, none⟩)]) (k := 21) (l := [(0, .pointer (some ⟨b4, 0, none⟩)), (1, .pointer (some ⟨b5, 0, none⟩)), (2, .pointer (some ⟨b7, 0, none⟩)), (3, .pointer (some ⟨b6, 0, none⟩)), (4, .pointer (some ⟨b8, 0, none⟩)), (5, .pointer (some ⟨b9, 0, none⟩))]) Tryz.func67 rfl rfl Tryz.ntmps67 rfl rfl (Wd.start _) ?_
 refine s1 ?_
 rcases chg_cs hq with ⟨a', n', hb, rfl, rfl⟩ | ⟨hb, hnq, rfl, rfl⟩ | ⟨hb, hak, hnq, rfl, rfl⟩
 ·refine s1 ?_
  refine aV (vOld rfl rfl (fun h => h) (cellB_get hl rfl)) ?_
  refine aPan (ecF rfl rfl) (fun w hw => bound_no (hbk.up hw.bel) hb) ?_
  refine s1 ?_
  refine JR_panic ?_
  intro w' hw
  exact ⟨rfl, hw.bel⟩
 ·refine s1 ?_
  refine aV (vOld rfl rfl (fun h => h) (cellB_get hl rfl)) ?_
  refine aW (oR (fun w hw => bound_yes (hbk.up hw.bel) hb)) (fun t10 ht10 => ?_)
  obtain ⟨bp, lb, lv, top⟩ := t10
  obtain ⟨hlv, hin, htop, hge⟩ := ht10
  dsimp only [BdG, List.cons_append, List.nil_append] at hlv hin htop hge ⊢
  obtain ⟨tp, rfl⟩ : ∃ k : Nat, top = k := ⟨top.toNat, by omega⟩
  have h64 := bnd_64 hb
  have hmk1 := hld_ok (ed := e1) (fun x hx => (hbk.cl x hx).tk) hok
  have hmk2 := hld_ok (ed := e2) (fun x hx => (hbk.cl x hx).tk) hok
  refine s6 ?_
  refine aV (vOld rfl rfl (fun h => h) (cellB_get he rfl)) ?_
  refine aV (vOld rfl rfl (fun h => h) (cellB_get hf rfl)) ?_
  refine aPan (ecF rfl rfl) (fun w hw => made_no (hw.ok (bookB bp A Bk.length c lb (tp : Nat)) (by repeat constructor)).1 (hw.ok (mapK Tryz.prog 9 3 kS okS dI lb (4096) lv) (by repeat constructor)).1 (hbk.up hw.bel) h64 (by omega) (hfl.up ES hw.bel) hok hnq) ?_
  refine s1 ?_
  refine JR_panic ?_
  intro w' hw
  exact ⟨rfl, hw.bel⟩
 ·refine s1 ?_
  refine aV (vOld rfl rfl (fun h => h) (cellB_get hl rfl)) ?_
  refine aW (oR (fun w hw => bound_yes (hbk.up hw.bel) hb)) (fun t10 ht10 => ?_)
  obtain ⟨bp, lb, lv, top⟩ := t10
  obtain ⟨hlv, hin, htop, hge⟩ := ht10
  dsimp only [BdG, List.cons_append, List.nil_append] at hlv hin htop hge ⊢
  obtain ⟨tp, rfl⟩ : ∃ k : Nat, top = k := ⟨top.toNat, by omega⟩
  have h64 := bnd_64 hb
  have hmk1 := hld_ok (ed := e1) (fun x hx => (hbk.cl x hx).tk) hok
  have hmk2 := hld_ok (ed := e2) (fun x hx => (hbk.cl x hx).tk) hok
  refine s6 ?_
  refine aV (vOld rfl rfl (fun h => h) (cellB_get he rfl)) ?_
  refine aV (vOld rfl rfl (fun h => h) (cellB_get hf rfl)) ?_
  refine aW (oR (fun w hw => made_yes (hw.ok (bookB bp A Bk.length c lb (tp : Nat)) (by repeat constructor)).1 (hw.ok (mapK Tryz.prog 9 3 kS okS dI lb (4096) lv) (by repeat constructor)).1 (hbk.up hw.bel) h64 (by omega) (hfl.up ES hw.bel) hok hak)) (fun t14 ht14 => ?_)
  obtain ⟨wp1, hb1', gb1, rb1, t1'⟩ := t14
  obtain ⟨hm1, hmn1, hmo1⟩ := ht14
  obtain ⟨m1, A01, c01⟩ := t1'
  dsimp only [MdG, List.cons_append, List.nil_append] at hm1 hmn1 hmo1 ⊢
  rw [hld_of hlv (by omega) (fun x hx => hge _ (hbk.cl x hx).tk)] at hm1
  subst hm1
  refine aW (oR (fun w hw => facts55 (hldM Bk e1 fl0).S wp1 bp hb1' gb1 rb1 e1 ⟨(hldM Bk e1 fl0), A01, c01⟩ w (hw.ok (recB wp1 bp hb1' gb1 rb1 e1 ⟨(hldM Bk e1 fl0), A01, c01⟩) (by repeat constructor)).1 (hw.ok (setB Tryz.prog 9 kS okS hb1' (hldM Bk e1 fl0).S) (by repeat constructor)).1 hmk1 (by omega))) (fun t15 ht15 => ?_)
  obtain ⟨L15, A15, c15⟩ := t15
  dsimp only [List.cons_append, List.nil_append] at ht15 ⊢
  have hn15 := ht15.len
  refine s4 ?_
  refine kJ [(2, _), (3, _), (4, _), (5, _), (6, _), (7, _)] ?_
  refine s2 ?_
  refine aV (vOld rfl rfl (fun h => h) (cellB_get ht rfl)) ?_
  refine aV (vOld rfl rfl (fun h => h) (cellB_get hf rfl)) ?_
  refine aPan (ecF rfl rfl) (fun w hw => made_no (hw.ok (bookB bp A Bk.length c lb (tp : Nat)) (by repeat constructor)).1 (hw.ok (mapK Tryz.prog 9 3 kS okS dI lb (4096) lv) (by repeat constructor)).1 (hbk.up hw.bel) h64 (by omega) (hfl.up ES hw.bel) hok hnq) ?_
  refine s1 ?_
  refine JR_panic ?_
  intro w' hw
  exact ⟨rfl, hw.bel⟩
set_option maxRecDepth 100000 in
set_option maxHeartbeats 4000000 in
theorem q67_yes (Bk : List Cl) (A : Option Addr) (c b4 b5 b7 b6 b8 b9 : Nat) (e1 e2 : Int) (fl0 : List ByteArray) (fA0 : Option Addr) (fc0 : Nat) (hok : ∀ s ∈ fl0, okS s) (w : World) (hl : (cellB b4 [.slice A Bk.length c] 22).holds w) (he : (cellB b5 [.int .i64 e1] 3).holds w) (hf : (cellB b7 [.slice fA0 fl0.length fc0] 23).holds w) (ht : (cellB b6 [.int .i64 e2] 3).holds w) (w0 : World) (hbk : BkW w0 Bk A c) (hfl : Arr 1 eS w0 (.slice fA0 fl0.length fc0) fl0) (hb0 : Below w0.heap.size w0 w) (hA : (unI (cellB b8 [.slice none 0 0] 23) (cellB b9 [.slice none 0 0] 23)).holds w) (hAf : ∀ b, (unI (cellB b8 [.slice none 0 0] 23) (cellB b9 [.slice none 0 0] 23)).foot b → b < w.heap.size) (hA0 : ∀ b, (unI (cellB b8 [.slice none 0 0] 23) (cellB b9 [.slice none 0 0] 23)).foot b → w0.heap.size ≤ b) (hn4 : ¬ (unI (cellB b8 [.slice none 0 0] 23) (cellB b9 [.slice none 0 0] 23)).foot b4) (hn5 : ¬ (unI (cellB b8 [.slice none 0 0] 23) (cellB b9 [.slice none 0 0] 23)).foot b5) (hn7 : ¬ (unI (cellB b8 [.slice none 0 0] 23) (cellB b9 [.slice none 0 0] 23)).foot b7) (hn6 : ¬ (unI (cellB b8 [.slice none 0 0] 23) (cellB b9 [.slice none 0 0] 23)).foot b6) (hq : chgQ Bk e1 e2 fl0 = none) : Calls Tryz.prog 67 #[.pointer (some ⟨b4, 0, none⟩), .pointer (some ⟨b5, 0, none⟩), .pointer (some ⟨b7, 0, none⟩), .pointer (some ⟨b6, 0, none⟩), .pointer (some ⟨b8, 0, none⟩), .pointer (some ⟨b9, 0, none⟩)] w (RetM (unI (cellB b8 [.slice none 0 0] 23) (cellB b9 [.slice none 0 0] 23)) (fun t : SoT × SoT => ∃ L M, SoP (hldM Bk e1 fl0).S L ∧ SoP (hldM Bk e2 fl0).S M ∧ t.1.L = lesL L M ∧ t.2.L = lesL M L) (fun _ => .tuple #[]) (fun t => unI (unI (cellB b8 [.slice t.1.A t.1.L.length t.1.c] 23) (ownB 9 1 t.1.A t.1.L.length t.1.c (t.1.L.flatMap eS))) (unI (cellB b9 [.slice t.2.A t.2.L.length t.2.c] 23) (ownB 9 1 t.2.A t.2.L.length t.2.c (t.2.L.flatMap eS)))) w) := by
 obtain ⟨hb, hak, hak2⟩ := chg_hq hq
 refine J_start (B := ⟨w, (unI (cellB b8 [.slice none 0 0] 23) (cellB b9 [.slice none 0 0] 23)).foot, none, []⟩) rfl rfl (vs := [.pointer (some ⟨b4, 0, none⟩), .pointer (some ⟨b5, 0, none⟩), .pointer (some ⟨b7, 0, none⟩), .pointer (some ⟨b6, 0, none⟩), .pointer (some ⟨b8, 0, none⟩), .pointer (some ⟨b9, 0, none⟩)]) (k := 21) (l := [(0, .pointer (some ⟨b4, 0, none⟩)), (1, .pointer (some ⟨b5, 0, none⟩)), (2, .pointer (some ⟨b7, 0, none⟩)), (3, .pointer (some ⟨b6, 0, none⟩)), (4, .pointer (some ⟨b8, 0, none⟩)), (5, .pointer (some ⟨b9, 0, none⟩))]) Tryz.func67 rfl rfl Tryz.ntmps67 rfl rfl (Wd.startM hA hAf) ?_
 refine s1 ?_
 refine J_split ?_
 refine s1 ?_
 refine aV (vOld rfl rfl hn4 (cellB_get hl rfl)) ?_
 refine aW (oR (fun w hw => bound_yes (hbk.up (Wd.belO hw hb0 hA0)) hb)) (fun t10 ht10 => ?_)
 obtain ⟨bp, lb, lv, top⟩ := t10
 obtain ⟨hlv, hin, htop, hge⟩ := ht10
 dsimp only [BdG, List.cons_append, List.nil_append] at hlv hin htop hge ⊢
 obtain ⟨tp, rfl⟩ : ∃ k : Nat, top = k := ⟨top.toNat, by omega⟩
 have h64 := bnd_64 hb
 have hmk1 := hld_ok (ed := e1) (fun x hx => (hbk.cl x hx).tk) hok
 have hmk2 := hld_ok (ed := e2) (fun x hx => (hbk.cl x hx).tk) hok
 refine s6 ?_
 refine aV (vOld rfl rfl hn5 (cellB_get he rfl)) ?_
 refine aV (vOld rfl rfl hn7 (cellB_get hf rfl)) ?_
 refine aW (oR (fun w hw => made_yes (hw.ok (bookB bp A Bk.length c lb (tp : Nat)) (by repeat constructor)).1 (hw.ok (mapK Tryz.prog 9 3 kS okS dI lb (4096) lv) (by repeat constructor)).1 (hbk.up (Wd.belO hw hb0 hA0)) h64 (by omega) (hfl.up ES (Wd.belO hw hb0 hA0)) hok hak)) (fun t14 ht14 => ?_)
 obtain ⟨wp1, hb1', gb1, rb1, t1'⟩ := t14
 obtain ⟨hm1, hmn1, hmo1⟩ := ht14
 obtain ⟨m1, A01, c01⟩ := t1'
 dsimp only [MdG, List.cons_append, List.nil_append] at hm1 hmn1 hmo1 ⊢
 rw [hld_of hlv (by omega) (fun x hx => hge _ (hbk.cl x hx).tk)] at hm1
 subst hm1
 refine aW (oR (fun w hw => facts55 (hldM Bk e1 fl0).S wp1 bp hb1' gb1 rb1 e1 ⟨(hldM Bk e1 fl0), A01, c01⟩ w (hw.ok (recB wp1 bp hb1' gb1 rb1 e1 ⟨(hldM Bk e1 fl0), A01, c01⟩) (by repeat constructor)).1 (hw.ok (setB Tryz.prog 9 kS okS hb1' (hldM Bk e1 fl0).S) (by repeat constructor)).1 hmk1 (by omega))) (fun t15 ht15 => ?_)
 obtain ⟨L15, A15, c15⟩ := t15
 dsimp only [List.cons_append, List.nil_append] at ht15 ⊢
 have hn15 := ht15.len
 refine s4 ?_
 refine kJ [(2, _), (3, _), (4, _), (5, _), (6, _), (7, _)] ?_
 refine s2 ?_
 refine aV (vOld rfl rfl hn6 (cellB_get ht rfl)) ?_
 refine aV (vOld rfl rfl hn7 (cellB_get hf rfl)) ?_
 refine aW (oR (fun w hw => made_yes (hw.ok (bookB bp A Bk.length c lb (tp : Nat)) (by repeat constructor)).1 (hw.ok (mapK Tryz.prog 9 3 kS okS dI lb (4096) lv) (by repeat constructor)).1 (hbk.up (Wd.belO hw hb0 hA0)) h64 (by omega) (hfl.up ES (Wd.belO hw hb0 hA0)) hok hak2)) (fun t19 ht19 => ?_)
 obtain ⟨wp2, hb2', gb2, rb2, t2'⟩ := t19
 obtain ⟨hm2, hmn2, hmo2⟩ := ht19
 obtain ⟨m2, A02, c02⟩ := t2'
 dsimp only [MdG, List.cons_append, List.nil_append] at hm2 hmn2 hmo2 ⊢
 rw [hld_of hlv (by omega) (fun x hx => hge _ (hbk.cl x hx).tk)] at hm2
 subst hm2
 refine aW (oR (fun w hw => facts55 (hldM Bk e2 fl0).S wp2 bp hb2' gb2 rb2 e2 ⟨(hldM Bk e2 fl0), A02, c02⟩ w (hw.ok (recB wp2 bp hb2' gb2 rb2 e2 ⟨(hldM Bk e2 fl0), A02, c02⟩) (by repeat constructor)).1 (hw.ok (setB Tryz.prog 9 kS okS hb2' (hldM Bk e2 fl0).S) (by repeat constructor)).1 hmk2 (by omega))) (fun t20 ht20 => ?_)
 obtain ⟨L20, A20, c20⟩ := t20
 dsimp only [List.cons_append, List.nil_append] at ht20 ⊢
 have hn20 := ht20.len
 refine s3 ?_
 refine kJ [(4, _), (5, _), (7, _), (8, _)] ?_
 refine s3 ?_
 refine aS (oS (fun w hw => less68 L15 L20 _ _ _ _ w (own_arr ES hw (by repeat constructor) (by omega)) (own_arr (A := A20) (c := c20) ES hw (by repeat constructor) (by omega)) (by omega) (by omega) (sop_ok ht15 (fun x hx => (hbk.cl x hx).tk) hok) (sop_ok ht20 (fun x hx => (hbk.cl x hx).tk) hok))) (fun A23 c23 => ?_)
 refine s2 ?_
 refine aS (oS (fun w hw => less68 L20 L15 _ _ _ _ w (own_arr ES hw (by repeat constructor) (by omega)) (own_arr (A := A15) (c := c15) ES hw (by repeat constructor) (by omega)) (by omega) (by omega) (sop_ok ht20 (fun x hx => (hbk.cl x hx).tk) hok) (sop_ok ht15 (fun x hx => (hbk.cl x hx).tk) hok))) (fun A26 c26 => ?_)
 refine s3 ?_
 refine JR_end rfl ?_
 intro w' hw
 refine ⟨(⟨_, A23, c23⟩, ⟨_, A26, c26⟩), ⟨L15, L20, ht15, ht20, rfl, rfl⟩, rfl, ?_⟩
 have h1 := Wd.unite (A := cellB b8 [.slice A23 (lesL L15 L20).length c23] 23) (C := ownB 9 1 A23 (lesL L15 L20).length c23 ((lesL L15 L20).flatMap eS)) (hw.pick (H' := [_, _, cellB b9 [.slice A26 (lesL L20 L15).length c26] 23, ownB 9 1 A26 (lesL L20 L15).length c26 ((lesL L20 L15).flatMap eS)]) (by repeat constructor)) rfl rfl
 have h2 := Wd.unite (A := cellB b9 [.slice A26 (lesL L20 L15).length c26] 23) (C := ownB 9 1 A26 (lesL L20 L15).length c26 ((lesL L20 L15).flatMap eS)) (h1.pick (H' := [_, _, _]) (by repeat constructor)) rfl rfl
 exact Wd.unite (h2.pick (H' := [_, _]) (by repeat constructor)) rfl rfl
theorem chg_no {Bk : List Cl} {e1 e2 : Int} {fl0 : List ByteArray} {a n : Int} {w w' : World} {e : Ending} (h : chgQ Bk e1 e2 fl0 = some (a, n)) (hb : Back (.tuple #[.slice none 0 0, .slice none 0 0, .int .i64 n]) w e w') : RetCh Bk e1 e2 fl0 w e w' := by
 unfold chgQ at h; unfold RetCh
 obtain hk | ⟨a', n', hk⟩ := opt2 (hldQ Bk e1 fl0)
 ·rw [hk] at h ⊢; dsimp only at h ⊢; rw [h]; exact hb
 ·rw [hk] at h ⊢; cases h; exact hb
theorem chg_yes {Bk : List Cl} {e1 e2 : Int} {fl0 : List ByteArray} {w w' : World} {e : Ending} (h : chgQ Bk e1 e2 fl0 = none) (hb : Ret w (fun t : SoT × SoT => ∃ L M, SoP (hldM Bk e1 fl0).S L ∧ SoP (hldM Bk e2 fl0).S M ∧ t.1.L = lesL L M ∧ t.2.L = lesL M L) (fun t => .tuple #[.slice t.1.A t.1.L.length t.1.c, .slice t.2.A t.2.L.length t.2.c, .int .i64 0]) (fun t => [ownB 9 1 t.1.A t.1.L.length t.1.c (t.1.L.flatMap eS), ownB 9 1 t.2.A t.2.L.length t.2.c (t.2.L.flatMap eS)]) e w') : RetCh Bk e1 e2 fl0 w e w' := by
 unfold chgQ at h; unfold RetCh
 obtain hk | ⟨a', n', hk⟩ := opt2 (hldQ Bk e1 fl0)
 ·rw [hk] at h ⊢; dsimp only at h ⊢; rw [h]; exact hb
 ·rw [hk] at h; cases h
set_option maxRecDepth 100000 in
set_option maxHeartbeats 4000000 in
theorem Changed32 (Bk : List Cl) (A : Option Addr) (c : Nat) (e1 e2 : Int) (fl0 : List ByteArray) (fA0 : Option Addr) (fc0 : Nat) (hok : ∀ s ∈ fl0, okS s) (w : World) (hbk : BkW w Bk A c) (hfl : Arr 1 eS w (.slice fA0 fl0.length fc0) fl0) : Calls Tryz.prog 32 #[.slice A Bk.length c, .int .i64 e1, .int .i64 e2, .slice fA0 fl0.length fc0] w (RetCh Bk e1 e2 fl0 w) := by
 refine J_enter (fun _ => False) (vs := [.slice A Bk.length c, .int .i64 e1, .int .i64 e2, .slice fA0 fl0.length fc0]) (k := 15) (l := [(0, .slice A Bk.length c), (1, .int .i64 e1), (2, .int .i64 e2), (3, .slice fA0 fl0.length fc0)]) Tryz.func32 rfl rfl Tryz.ntmps32 rfl rfl (Wd.start _) ?_
 refine s2 ?_
 refine aW (oX [_]) (fun b4 hb4 => ?_)
 refine aW (oX [_]) (fun b5 hb5 => ?_)
 refine aW (oX [_]) (fun b6 hb6 => ?_)
 refine aW (oX [_]) (fun b7 hb7 => ?_)
 refine aW oA (fun b8 hb8 => ?_)
 refine aW oA (fun b9 hb9 => ?_)
 refine s4 ?_
 obtain hq | ⟨a, n, hq⟩ := opt2 (chgQ Bk e1 e2 fl0)
 ·refine kJ [(4, _), (5, _), (6, _), (7, _), (8, _), (9, _)] ?_
  refine s2 ?_
  refine JL_unite (cellB b9 [.slice none 0 0] 23) (cellB b8 [.slice none 0 0] 23) ?_
  refine aW (oM (fun w hw => answered_yes 67 #[.pointer (some ⟨b4, 0, none⟩), .pointer (some ⟨b5, 0, none⟩), .pointer (some ⟨b7, 0, none⟩), .pointer (some ⟨b6, 0, none⟩), .pointer (some ⟨b8, 0, none⟩), .pointer (some ⟨b9, 0, none⟩)] (unI (cellB b8 [.slice none 0 0] 23) (cellB b9 [.slice none 0 0] 23)) (fun t : SoT × SoT => ∃ L M, SoP (hldM Bk e1 fl0).S L ∧ SoP (hldM Bk e2 fl0).S M ∧ t.1.L = lesL L M ∧ t.2.L = lesL M L) (fun t => unI (unI (cellB b8 [.slice t.1.A t.1.L.length t.1.c] 23) (ownB 9 1 t.1.A t.1.L.length t.1.c (t.1.L.flatMap eS))) (unI (cellB b9 [.slice t.2.A t.2.L.length t.2.c] 23) (ownB 9 1 t.2.A t.2.L.length t.2.c (t.2.L.flatMap eS)))) w (hw.ok (unI (cellB b8 [.slice none 0 0] 23) (cellB b9 [.slice none 0 0] 23)) (by repeat constructor)).1 (hw.newA (by repeat constructor) rfl).2 rfl (fun _ => rfl) (fun W hW => q67_yes Bk A c b4 b5 b7 b6 b8 b9 e1 e2 fl0 fA0 fc0 hok W (hw.keepO (C := cellB b4 [.slice A Bk.length c] 22) hW (by repeat constructor) rfl).1 (hw.keepO (C := cellB b5 [.int .i64 e1] 3) hW (by repeat constructor) rfl).1 (hw.keepO (C := cellB b7 [.slice fA0 fl0.length fc0] 23) hW (by repeat constructor) rfl).1 (hw.keepO (C := cellB b6 [.int .i64 e2] 3) hW (by repeat constructor) rfl).1 _ hbk hfl (hw.belM (A := unI (cellB b8 [.slice none 0 0] 23) (cellB b9 [.slice none 0 0] 23)) (by repeat constructor) rfl hW) (hW.ok (unI (cellB b8 [.slice none 0 0] 23) (cellB b9 [.slice none 0 0] 23)) (by repeat constructor)).1 (fun b hb => ((hW.ok (unI (cellB b8 [.slice none 0 0] 23) (cellB b9 [.slice none 0 0] 23)) (by repeat constructor)).2 b hb).2) (hw.newA (by repeat constructor) rfl).1 ((hw.keepO (C := cellB b4 [.slice A Bk.length c] 22) hW (by repeat constructor) rfl).2 b4 rfl) ((hw.keepO (C := cellB b5 [.int .i64 e1] 3) hW (by repeat constructor) rfl).2 b5 rfl) ((hw.keepO (C := cellB b7 [.slice fA0 fl0.length fc0] 23) hW (by repeat constructor) rfl).2 b7 rfl) ((hw.keepO (C := cellB b6 [.int .i64 e2] 3) hW (by repeat constructor) rfl).2 b6 rfl) hq))) (fun t13 ht13 => ?_)
  refine JL_split ?_
  refine JL_split ?_
  refine JL_split ?_
  refine s7 ?_
  refine kJ [(8, _), (9, _), (10, _)] ?_
  refine xDx [0, 1, 2, 3, 4, 5] [0] [1] [cellB b9 [.slice t13.2.A t13.2.L.length t13.2.c] 23] ?_
  refine s4 ?_
  refine dW0 rfl wAnyS ?_ (hm := by exact ⟨by kernel_rfl, .inl (by kernel_rfl)⟩)
  refine s4 ?_
  refine JR_three rfl (rr_cell rfl Agg.h (by repeat constructor) (by rfl)) (rr_cell rfl Agg.h (by repeat constructor) (by rfl)) (rr_tmp rfl) ?_
  intro w' hw
  exact chg_yes hq ⟨t13, ht13, rfl, hw.pick (by repeat constructor)⟩
 ·refine kJ [(4, _), (5, _), (6, _), (7, _), (8, _), (9, _)] ?_
  refine s2 ?_
  refine aCB (fun w hw => answered_no 67 #[.pointer (some ⟨b4, 0, none⟩), .pointer (some ⟨b5, 0, none⟩), .pointer (some ⟨b7, 0, none⟩), .pointer (some ⟨b6, 0, none⟩), .pointer (some ⟨b8, 0, none⟩), .pointer (some ⟨b9, 0, none⟩)] a n w (fun W hW => q67_no Bk A c b4 b5 b7 b6 b8 b9 e1 e2 fl0 fA0 fc0 hok W ((cellB b4 [.slice A Bk.length c] 22).st _ _ (fun b h => hW.block b ((hw.ok _ (by repeat constructor)).2 b h).2) (hw.ok (cellB b4 [.slice A Bk.length c] 22) (by repeat constructor)).1) ((cellB b5 [.int .i64 e1] 3).st _ _ (fun b h => hW.block b ((hw.ok _ (by repeat constructor)).2 b h).2) (hw.ok (cellB b5 [.int .i64 e1] 3) (by repeat constructor)).1) ((cellB b7 [.slice fA0 fl0.length fc0] 23).st _ _ (fun b h => hW.block b ((hw.ok _ (by repeat constructor)).2 b h).2) (hw.ok (cellB b7 [.slice fA0 fl0.length fc0] 23) (by repeat constructor)).1) ((cellB b6 [.int .i64 e2] 3).st _ _ (fun b h => hW.block b ((hw.ok _ (by repeat constructor)).2 b h).2) (hw.ok (cellB b6 [.int .i64 e2] 3) (by repeat constructor)).1) ((hbk.up hw.bel).up hW) ((hfl.up ES hw.bel).up ES hW) hq)) ?_
  refine s7 ?_
  refine kJ [(8, _), (9, _), (10, _)] ?_
  refine xDx [0, 1, 2, 3, 4, 5] [0] [1] [cellB b9 [.slice none 0 0] 23] ?_
  refine s4 ?_
  refine dW0 rfl wAnyS ?_ (hm := by exact ⟨by kernel_rfl, .inl (by kernel_rfl)⟩)
  refine s4 ?_
  refine JR_three rfl (rr_cell rfl Agg.h (by repeat constructor) (by rfl)) (rr_cell rfl Agg.h (by repeat constructor) (by rfl)) (rr_tmp rfl) ?_
  intro w' hw
  exact chg_no hq ⟨rfl, hw.bel⟩
end Go.Proofs.YtjkolebffbeeeaaGreatDoor
