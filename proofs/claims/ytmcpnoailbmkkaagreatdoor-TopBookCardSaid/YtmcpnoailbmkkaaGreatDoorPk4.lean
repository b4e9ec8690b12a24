/- Layers of the proofs, joined: Wd We Wf Wg Wh Wi Wj Wk Wl Wm Wn Wo Xa Xz Xb Xc Xd G21 Ya Yb. -/
import Derived.Test.YtmcpnoailbmkkaaGreatDoorPk3
import Derived.Shelf.SlIter.Keys
import Derived.Shelf.SlIter.Sorted
import Derived.Shelf.SortM.Plain
import Derived.Shelf.SortM.SortNone
import Derived.Ground.GgzProg
import Derived.Ground.SlgmProg
import Derived.Shelf.SlMaps.Clone
import Derived.Ground.SlmcProg
/- Sets of strings, clauses: the program and the document; need. -/
namespace Go.Proofs.YtmcpnoailbmkkaaGreatDoor
open Go Go.RowKit Go.Proofs
attribute [local irreducible] J JQ JL JA JD

set_option maxRecDepth 100000 in
set_option maxHeartbeats 4000000 in
theorem of63 (l : List ByteArray) (v : Value) (w : World) (hl : Arr 1 eS w v l) (hok : ∀ s ∈ l, okS s) (hn : l.length ≤ 1000) : Calls Tryz.prog 90 #[v] w (Ret w (fun _ : Nat => True) (fun b => .map (some b)) (fun b => [setB Tryz.prog 9 kS okS b l.reverse])) := by
 obtain ⟨A, cap, rfl, -, ⟨hlb, -⟩, hA⟩ := hl
 refine J_enter (fun _ => False) (vs := [.slice A l.length cap]) (k := 16) (l := [(0, .slice A l.length cap)]) Tryz.func90 rfl rfl Tryz.ntmps90 rfl rfl (Wd.start _) ?_
 refine s7 ?_
 refine aW (ow_makeSet (kt := 9) (kv := kS) (ok := okS) rfl rfl rfl (fun _ => by kernel_rfl)) (fun b6 hb6 => ?_)
 refine s12 ?_
 refine xL (T := Nat) (fun k => k ≤ l.length) (fun k => [(3, .map (some b6)), (7, .slice A l.length cap), (8, .int .i64 (l.length : Nat)), (9, .int .i64 (k : Nat))]) (fun k => [setB Tryz.prog 9 kS okS b6 (l.take k).reverse]) (fun k => l.length - k) 0 (Nat.zero_le _) ?_
 rintro k hk
 refine s3 ?_
 refine JL_dec (fun h10 => ?_) (fun h10 => ?_)
 ·refine s9 ?_
  have hlt : k < l.length := by omega
  obtain ⟨b, p, rfl, hh⟩ := hA (by intro e; subst e; simp at hlt)
  obtain ⟨y, hy⟩ : ∃ y, l[k]'hlt = y := ⟨_, rfl⟩
  have hyk : okS y := hok y (by rw [← hy]; exact List.getElem_mem _)
  have hsn : (l.take (k + 1)).reverse = y :: (l.take k).reverse := by rw [List.take_succ_eq_append_getElem hlt, hy, List.reverse_append]; rfl
  refine s2 ?_
  refine aV (vHold rfl rfl (fun h => h) hh hlt (by omega) (by rw [hy]; rfl)) ?_
  refine s6 ?_
  refine aW0 (ow_putS KS LBool y Und.h rfl rfl rfl rfl rfl rfl rfl (by repeat constructor) hyk (by rw [List.length_reverse, List.length_take]; omega)) ?_
  refine s3 ?_
  refine kJ [(3, _), (7, _), (8, _), (9, _)] ?_
  refine s4 ?_
  exact xR (k + 1) (by omega) (by omega) (hH := by (try dsimp only); rw [hsn]; repeat constructor)
 ·refine s10 ?_
  obtain rfl : k = l.length := by omega
  rw [List.take_length]
  refine kJ [(3, _)] ?_
  refine s6 ?_
  refine JR_one rfl (rr_tmp rfl) ?_
  intro w' hw
  exact ⟨b6, trivial, rfl, hw.pick (by repeat constructor)⟩
set_option maxRecDepth 100000 in
set_option maxHeartbeats 4000000 in
theorem any82 (x : ByteArray) (S : List ByteArray) (b c : Nat) (w : World) (hc : w.cell? ⟨c, 0, none⟩ = some (.map (some b))) (hS : (setB Tryz.prog 9 kS okS b S).holds w) (hx : okS x) : Calls Tryz.prog 177 #[.string x, .pointer (some ⟨c, 0, none⟩)] w (Back (.bool (decide (x ∈ S))) w) := by
 refine J_enter (fun _ => False) (vs := [.string x, .pointer (some ⟨c, 0, none⟩)]) (k := 5) (l := [(0, .string x), (1, .pointer (some ⟨c, 0, none⟩))]) Tryz.func177 rfl rfl Tryz.ntmps177 rfl rfl (Wd.start _) ?_
 refine s7 ?_
 refine aV (vOld rfl rfl (fun h => h) hc) ?_
 refine s1 ?_
 refine aV (rv_lookSO KS LBool x Und.h rfl rfl rfl (fun h => h) hS rfl hx) ?_
 refine s4 ?_
 refine JR_one rfl (rr_tmp rfl) ?_
 intro w' hw
 exact ⟨rfl, hw.bel⟩
set_option maxRecDepth 100000 in
set_option maxHeartbeats 4000000 in
theorem all111 (x : ByteArray) (S : List ByteArray) (b c : Nat) (w : World) (hc : w.cell? ⟨c, 0, none⟩ = some (.map (some b))) (hS : (setB Tryz.prog 9 kS okS b S).holds w) (hx : okS x) : Calls Tryz.prog 210 #[.string x, .pointer (some ⟨c, 0, none⟩)] w (Back (.bool (!decide (x ∈ S))) w) := by
 refine J_enter (fun _ => False) (vs := [.string x, .pointer (some ⟨c, 0, none⟩)]) (k := 6) (l := [(0, .string x), (1, .pointer (some ⟨c, 0, none⟩))]) Tryz.func210 rfl rfl Tryz.ntmps210 rfl rfl (Wd.start _) ?_
 refine s7 ?_
 refine aV (vOld rfl rfl (fun h => h) hc) ?_
 refine s1 ?_
 refine aV (rv_lookSO KS LBool x Und.h rfl rfl rfl (fun h => h) hS rfl hx) ?_
 refine s5 ?_
 refine JR_one rfl (rr_tmp rfl) ?_
 intro w' hw
 exact ⟨rfl, hw.bel⟩
set_option maxRecDepth 100000 in
set_option maxHeartbeats 4000000 in
theorem any64 (l S : List ByteArray) (v : Value) (b : Nat) (w : World) (hS : (setB Tryz.prog 9 kS okS b S).holds w) (hl : Arr 1 eS w v l) (hok : ∀ s ∈ l, okS s) : Calls Tryz.prog 135 #[.map (some b), v] w (Back (.bool (l.any (fun x => decide (x ∈ S)))) w) := by
 refine J_enter (fun _ => False) (vs := [.map (some b), v]) (k := 6) (l := [(0, .map (some b)), (1, v)]) Tryz.func135 rfl rfl Tryz.ntmps135 rfl rfl (Wd.start _) ?_
 refine s2 ?_
 refine aW (oX [_]) (fun b2 hb2 => ?_)
 refine s7 ?_
 refine aCB (fun w hw => ContainsFunc81 177 #[.pointer (some ⟨b2, 0, none⟩)] (fun x => decide (x ∈ S)) l v w (fun x hx W hW => any82 x S b b2 W (upc (cellB_get (hw.ok (cellB b2 [.map (some b)] 117) (by repeat constructor)).1 rfl) hW) (setB_up (setB_up hS hw.bel) hW) (hok x hx)) (hl.up ES hw.bel)) ?_
 refine s4 ?_
 refine JR_one rfl (rr_tmp rfl) ?_
 intro w' hw
 exact ⟨rfl, hw.bel⟩
theorem any_not (l S : List ByteArray) : l.all (fun x => decide (x ∈ S)) = !l.any (fun x => !decide (x ∈ S)) := by
 induction l with
 | nil => rfl
 | cons a l ih => simp [List.all_cons, List.any_cons, ih]
set_option maxRecDepth 100000 in
set_option maxHeartbeats 4000000 in
theorem all102 (l S : List ByteArray) (v : Value) (b : Nat) (w : World) (hS : (setB Tryz.prog 9 kS okS b S).holds w) (hl : Arr 1 eS w v l) (hok : ∀ s ∈ l, okS s) : Calls Tryz.prog 178 #[.map (some b), v] w (Back (.bool (l.all (fun x => decide (x ∈ S)))) w) := by
 refine J_enter (fun _ => False) (vs := [.map (some b), v]) (k := 7) (l := [(0, .map (some b)), (1, v)]) Tryz.func178 rfl rfl Tryz.ntmps178 rfl rfl (Wd.start _) ?_
 refine s2 ?_
 refine aW (oX [_]) (fun b2 hb2 => ?_)
 refine s7 ?_
 refine aCB (fun w hw => ContainsFunc81 210 #[.pointer (some ⟨b2, 0, none⟩)] (fun x => !decide (x ∈ S)) l v w (fun x hx W hW => all111 x S b b2 W (upc (cellB_get (hw.ok (cellB b2 [.map (some b)] 117) (by repeat constructor)).1 rfl) hW) (setB_up (setB_up hS hw.bel) hW) (hok x hx)) (hl.up ES hw.bel)) ?_
 refine s5 ?_
 refine JR_one rfl (rr_tmp rfl) ?_
 intro w' hw
 exact ⟨by rw [any_not], hw.bel⟩
theorem namesB_len {l : List ByteArray} {m : Int} (h : namesB l m = true) : (l.length : Int) ≤ m := by unfold namesB at h; simp at h; exact h.2
set_option maxRecDepth 100000 in
set_option maxHeartbeats 4000000 in
theorem CheckClause28 (c : Cl) (w : World) (hc : ClW w c) : Calls Tryz.prog 87 #[Clv c] w (Back (.bool (clB c)) w) := by
 refine J_enter (fun _ => False) (vs := [Clv c]) (k := 43) (l := [(0, Clv c)]) Tryz.func87 rfl rfl Tryz.ntmps87 rfl rfl (Wd.start _) ?_
 refine s2 ?_
 refine aW (oX [_, _, _, _, _, _]) (fun b1 hb1 => ?_)
 refine s4 ?_
 refine xD [0, 1, 2] [1, 5, 10, 13] ?_
 refine s2 ?_
 refine dCB rfl (fun w hw => rising62 c.fs.l 8 _ w (hc.up hw.bel).fs hc.fk) ?_
 refine dBool (fun h6 => ?_) (fun h6 => ?_)
 ·refine dO [3, 4, 5, 6] ?_
  refine s3 ?_
  refine dCB rfl (fun w hw => rising62 c.us.l 8 _ w (hc.up hw.bel).us hc.uk) ?_
  refine dBool (fun h10 => ?_) (fun h10 => ?_)
  ·refine dO [7, 8, 9, 10, 12, 13, 11, 14] ?_
   refine s6 ?_
   refine dW rfl (oR (fun w hw => of63 c.fs.l _ w (hc.up hw.bel).fs hc.fk (by have := namesB_len h6; omega))) (fun b15 _ => ?_)
   refine dCB rfl (fun w hw => any64 c.us.l c.fs.l.reverse _ b15 w (hw.ok (setB Tryz.prog 9 kS okS b15 c.fs.l.reverse) (by repeat constructor)).1 (hc.up hw.bel).us hc.uk) ?_
   refine dBool (fun h18 => ?_) (fun h18 => ?_)
   ·simp only [List.mem_reverse] at h18
    refine dO [15, 16, 17] ?_
    refine s6 ?_
    refine kJ [(1, _), (3, _)] ?_
    refine s28 ?_
    refine JR_one rfl (rr_tmp rfl) ?_
    intro w' hw
    have e : clB c = false := by unfold clB; rw [any_comm c.fs.l c.us.l, h6, h10, h18] <;> simp
    rw [e]; exact ⟨rfl, hw.bel⟩
   ·simp only [List.mem_reverse] at h18
    refine dO [15, 16, 17] ?_
    refine s6 ?_
    refine kJ [(1, _), (3, _)] ?_
    refine s5 ?_
    refine aCB (fun w hw => named42 c.n w hc.nk) ?_
    refine JL_bool (fun h25 => ?_) (fun h25 => ?_)
    ·refine s4 ?_
     refine aCB (fun w hw => named42 c.th w hc.tk) ?_
     refine JL_bool (fun h30 => ?_) (fun h30 => ?_)
     ·refine s6 ?_
      refine aCB (fun w hw => within65 _ _ _ w) ?_
      refine JL_dec (fun h37 => ?_) (fun h37 => ?_)
      ·refine s5 ?_
       refine JL_dec (fun h42 => ?_) (fun h42 => ?_)
       ·refine s5 ?_
        refine JR_one rfl (rr_tmp rfl) ?_
        intro w' hw
        have e : clB c = true := by unfold clB; rw [any_comm c.fs.l c.us.l, h6, h10, h18, h25, h30, decide_eq_true h37, decide_eq_true h42] <;> simp
        rw [e]; exact ⟨rfl, hw.bel⟩
       ·refine s5 ?_
        refine JR_one rfl (rr_tmp rfl) ?_
        intro w' hw
        have e : clB c = false := by unfold clB; rw [any_comm c.fs.l c.us.l, h6, h10, h18, h25, h30, decide_eq_true h37, decide_eq_false h42] <;> simp
        rw [e]; exact ⟨rfl, hw.bel⟩
      ·refine s10 ?_
       refine JR_one rfl (rr_tmp rfl) ?_
       intro w' hw
       have e : clB c = false := by unfold clB; rw [any_comm c.fs.l c.us.l, h6, h10, h18, h25, h30, decide_eq_false h37] <;> simp
       rw [e]; exact ⟨rfl, hw.bel⟩
     ·refine s17 ?_
      refine JR_one rfl (rr_tmp rfl) ?_
      intro w' hw
      have e : clB c = false := by unfold clB; rw [any_comm c.fs.l c.us.l, h6, h10, h18, h25, h30] <;> simp
      rw [e]; exact ⟨rfl, hw.bel⟩
    ·refine s22 ?_
     refine JR_one rfl (rr_tmp rfl) ?_
     intro w' hw
     have e : clB c = false := by unfold clB; rw [any_comm c.fs.l c.us.l, h6, h10, h18, h25] <;> simp
     rw [e]; exact ⟨rfl, hw.bel⟩
  ·refine dO [7, 8, 9, 10, 11, 12, 13, 14, 15, 16, 17] ?_
   refine s14 ?_
   refine kJ [(1, _), (3, _)] ?_
   refine s28 ?_
   refine JR_one rfl (rr_tmp rfl) ?_
   intro w' hw
   have e : clB c = false := by unfold clB; rw [h6, h10] <;> simp
   rw [e]; exact ⟨rfl, hw.bel⟩
 ·refine dO [3, 4, 5, 6, 7, 8, 9, 10, 11, 12, 13, 14, 15, 16, 17] ?_
  refine s18 ?_
  refine kJ [(1, _), (3, _)] ?_
  refine s28 ?_
  refine JR_one rfl (rr_tmp rfl) ?_
  intro w' hw
  have e : clB c = false := by unfold clB; rw [h6] <;> simp
  rw [e]; exact ⟨rfl, hw.bel⟩
end Go.Proofs.YtmcpnoailbmkkaaGreatDoor
/- Clauses by the document; need. -/
namespace Go.Proofs.YtmcpnoailbmkkaaGreatDoor
open Go Go.RowKit Go.Proofs
attribute [local irreducible] J JQ JL JA JD

/-- A refusal. -/
abbrev Mis (at_ e : Int) : List PanicEntry := [{ v := .iface 185 (.agg #[.int .i64 at_, .int .i64 e]), recovered := false }]
/-- A call that is refused. -/
abbrev Fails (at_ e : Int) (w : World) (r : Ending) (w' : World) : Prop := r = .panicked (Mis at_ e) ∧ Below w.heap.size w w'
set_option maxRecDepth 100000 in
set_option maxHeartbeats 4000000 in
theorem need_yes (a e : Int) (w : World) : Calls Tryz.prog 42 #[.bool true, .int .i64 a, .int .i64 e] w (Back (.tuple #[]) w) := by
 refine J_enter (fun _ => False) (vs := [.bool true, .int .i64 a, .int .i64 e]) (k := 9) (l := [(0, .bool true), (1, .int .i64 a), (2, .int .i64 e)]) Tryz.func42 rfl rfl Tryz.ntmps42 rfl rfl (Wd.start _) ?_
 refine s8 ?_
 refine JR_end rfl ?_
 intro w' hw
 exact ⟨rfl, hw.bel⟩
set_option maxRecDepth 100000 in
set_option maxHeartbeats 4000000 in
theorem need_no (a e : Int) (w : World) : Calls Tryz.prog 42 #[.bool false, .int .i64 a, .int .i64 e] w (Fails a e w) := by
 refine J_enter (fun _ => False) (vs := [.bool false, .int .i64 a, .int .i64 e]) (k := 9) (l := [(0, .bool false), (1, .int .i64 a), (2, .int .i64 e)]) Tryz.func42 rfl rfl Tryz.ntmps42 rfl rfl (Wd.start _) ?_
 refine s10 ?_
 refine aP (rp_buildC (fun us => [us.getD 0 undef, us.getD 1 undef]) rfl rfl (fun w => by kernel_rfl)) ?_
 refine aP (pIface (fun _ => by kernel_rfl) rfl rfl) ?_
 refine aPanic rfl rfl ?_
 refine JR_panic ?_
 intro w' hw
 exact ⟨rfl, hw.bel⟩
end Go.Proofs.YtmcpnoailbmkkaaGreatDoor
/- The levels of a book, by the document. -/
namespace Go.Proofs.YtmcpnoailbmkkaaGreatDoor
open Go Go.RowKit Go.Proofs
attribute [local irreducible] J JQ JL JA JD

theorem arr_parts {w : World} {A : Option Addr} {n c : Nat} {l : List ByteArray} (h : Arr 1 eS w (.slice A n c) l) : l.length ≤ 9223372036854775807 ∧ (l ≠ [] → ∃ b o, A = some ⟨b, o, none⟩ ∧ HoldL 1 eS w b o l) := by
 obtain ⟨A', c', e, -, ⟨h1, -⟩, h2⟩ := h
 injection e with e1
 rw [e1]; exact ⟨h1, h2⟩
/-! Levels. -/
abbrev LM := ByteArray → Option Int
def gM (m : LM) (x : ByteArray) : Int := (m x).getD 0
def mxF (m : LM) (n : Int) (l : List ByteArray) : Int := l.foldl (fun n f => max n (gM m f)) n
def mxU (m : LM) (n : Int) (l : List ByteArray) : Int := l.foldl (fun n f => max n (gM m f + 1)) n
def lvC (m : LM) (c : Cl) : Int := mxU m (mxF m (gM m c.th) c.fs.l) c.us.l
def rdF (N : Int) : List Cl → LM → Bool → Option (LM × Bool)
 | [], m, b => some (m, b)
 | c :: l, m, b => if lvC m c ≤ N then rdF N l (if gM m c.th < lvC m c then upd m c.th (lvC m c) else m) (if gM m c.th < lvC m c then true else b) else none
def lvF (N : Int) (B : List Cl) : Nat → LM → Option LM
 | 0, m => some m
 | k + 1, m => match rdF N B m false with | none => none | some (m', b) => if b then lvF N B k m' else some m'
def lvl (B : List Cl) : Option LM := lvF B.length B (B.length * B.length + 1) (fun _ => none)
def mea (N : Int) (B : List Cl) (m : LM) : Nat := (B.map fun c => (N - gM m c.th).toNat).sum
theorem gM_upd (m : LM) (x y : ByteArray) (v : Int) : gM (upd m x v) y = if y = x then v else gM m y := by
 unfold gM upd; split <;> rfl
theorem mea_le {N : Int} {m m' : LM} (h : ∀ x, gM m x ≤ gM m' x) : ∀ B, mea N B m' ≤ mea N B m
 | [] => Nat.le_refl _
 | c :: B => by
  have ih := mea_le (N := N) h B
  unfold mea at ih ⊢
  rw [List.map_cons, List.map_cons, List.sum_cons, List.sum_cons]
  have := h c.th
  omega
theorem mea_upd {N : Int} {m : LM} {x : ByteArray} {v : Int} (hv : gM m x < v) (hN : v ≤ N) : ∀ B : List Cl, (∃ c ∈ B, c.th = x) → mea N B (upd m x v) < mea N B m
 | [], h => by obtain ⟨c, h, -⟩ := h; cases h
 | c :: B, h => by
  have hle : ∀ y, gM m y ≤ gM (upd m x v) y := fun y => by rw [gM_upd]; split; rename_i e; subst e; omega; exact Int.le_refl _
  have h1 := mea_le (N := N) hle B
  by_cases e : c.th = x
  ·unfold mea at h1 ⊢
   rw [List.map_cons, List.map_cons, List.sum_cons, List.sum_cons, gM_upd, if_pos e, e]
   omega
  ·have ih := mea_upd hv hN B (by obtain ⟨d, hd, e'⟩ := h; rcases List.mem_cons.1 hd with rfl | hd; exact absurd e' e; exact ⟨d, hd, e'⟩)
   unfold mea at ih ⊢
   rw [List.map_cons, List.map_cons, List.sum_cons, List.sum_cons, gM_upd, if_neg e]
   omega
theorem mea_0 (N : Int) : ∀ B : List Cl, mea N B (fun _ => none) ≤ B.length * N.toNat
 | [] => Nat.zero_le _
 | c :: B => by
  have ih := mea_0 N B
  unfold mea at ih ⊢
  rw [List.map_cons, List.sum_cons, List.length_cons, Nat.succ_mul]
  have : (N - gM (fun _ => none) c.th).toNat = N.toNat := by show (N - 0).toNat = _; rw [Int.sub_zero]
  omega
/-- Levels are from 0 to N. -/
def InM (N : Int) (m : LM) : Prop := ∀ x, 0 ≤ gM m x ∧ gM m x ≤ N
theorem InM.nil {N : Int} (h : 0 ≤ N) : InM N (fun _ => none) := fun _ => ⟨Int.le_refl _, h⟩
theorem InM.upd {N : Int} {m : LM} (h : InM N m) {x : ByteArray} {v : Int} (h0 : 0 ≤ v) (hv : v ≤ N) : InM N (upd m x v) := fun y => by
 rw [gM_upd]; split; exact ⟨h0, hv⟩; exact h y
theorem mxF_in {N : Int} {m : LM} (h : InM N m) : ∀ (l : List ByteArray) (n : Int), 0 ≤ n ∧ n ≤ N → n ≤ mxF m n l ∧ 0 ≤ mxF m n l ∧ mxF m n l ≤ N
 | [], n, hn => ⟨Int.le_refl _, hn⟩
 | f :: l, n, hn => by
  have h1 := h f
  have := mxF_in h l (max n (gM m f)) (by omega)
  unfold mxF at this ⊢
  rw [List.foldl_cons]; omega
theorem mxU_in {N : Int} {m : LM} (h : InM N m) : ∀ (l : List ByteArray) (n : Int), 0 ≤ n ∧ n ≤ N + 1 → n ≤ mxU m n l ∧ 0 ≤ mxU m n l ∧ mxU m n l ≤ N + 1
 | [], n, hn => ⟨Int.le_refl _, hn⟩
 | f :: l, n, hn => by
  have h1 := h f
  have := mxU_in h l (max n (gM m f + 1)) (by omega)
  unfold mxU at this ⊢
  rw [List.foldl_cons]; omega
theorem mxF_s (m : LM) (n : Int) (l : List ByteArray) (k : Nat) (h : k < l.length) : mxF m n (l.take (k + 1)) = max (mxF m n (l.take k)) (gM m (l[k]'h)) := by
 unfold mxF; rw [List.take_succ_eq_append_getElem h, List.foldl_append]; rfl
theorem mxU_s (m : LM) (n : Int) (l : List ByteArray) (k : Nat) (h : k < l.length) : mxU m n (l.take (k + 1)) = max (mxU m n (l.take k)) (gM m (l[k]'h) + 1) := by
 unfold mxU; rw [List.take_succ_eq_append_getElem h, List.foldl_append]; rfl
end Go.Proofs.YtmcpnoailbmkkaaGreatDoor
/- A book, if it is sound. -/
namespace Go.Proofs.YtmcpnoailbmkkaaGreatDoor
open Go Go.RowKit Go.Proofs
attribute [local irreducible] J JQ JL JA JD

theorem arr_partsC {w : World} {A : Option Addr} {n c : Nat} {l : List Cl} (h : Arr 6 eC w (.slice A n c) l) : l.length ≤ 9223372036854775807 ∧ (l ≠ [] → ∃ b o, A = some ⟨b, o, none⟩ ∧ HoldL 6 eC w b o l) := by
 obtain ⟨A', c', e, -, ⟨h1, -⟩, h2⟩ := h
 injection e with e1
 rw [e1]; exact ⟨h1, h2⟩
theorem keyS (key : Value) (kl : Lit) (h : keyOf Tryz.prog 9 key = some kl) : ∃ x, key = kS x ∧ okS x := by
 obtain ⟨s, h1, -, h3⟩ := WideMaps.string_of_keyOf (Und.h (P := Tryz.prog) (t := 9) (u := .string)) h
 exact ⟨s, h1, h3⟩
def fstBad : List Cl → Nat → Option Nat
 | [], _ => none
 | c :: l, k => if clB c then fstBad l (k + 1) else some k
/-- Why a list of clauses is no sound book. -/
def bndF (Bk : List Cl) : Option (Int × Int) := if 64 < Bk.length then some (-1, 3) else match fstBad Bk 0 with
 | some i => some ((i : Nat), 2)
 | none => match lvl Bk with | none => some (-1, 9) | some _ => none
structure BdT where
 bp : Nat
 b : Nat
 m : LM
 top : Int
def BdP (Bk : List Cl) (t : BdT) : Prop := lvl Bk = some t.m ∧ InM (Bk.length : Nat) t.m ∧ (0 ≤ t.top ∧ t.top ≤ (Bk.length : Nat)) ∧ ∀ x, okS x → gM t.m x ≤ t.top
def BdG (A : Option Addr) (n c : Nat) (t : BdT) : List It := [cellB t.bp [.slice A n c, .map (some t.b), .int .i64 t.top] 189, mapK Tryz.prog 9 3 kS okS dI t.b (4096) t.m]
def RetBd (Bk : List Cl) (A : Option Addr) (c : Nat) (w : World) (e : Ending) (w' : World) : Prop := match bndF Bk with
 | some (a, n) => Fails a n w e w'
 | none => Ret w (BdP Bk) (fun t => .pointer (some ⟨t.bp, 0, none⟩)) (BdG A Bk.length c) e w'

set_option maxRecDepth 100000 in
set_option maxHeartbeats 4000000 in
theorem bound39 (Bk : List Cl) (BA : Option Addr) (bc : Nat) (w : World) (hB : Arr 6 eC w (.slice BA Bk.length bc) Bk) (hcl : ∀ c ∈ Bk, ClW w c) : Calls Tryz.prog 38 #[.slice BA Bk.length bc] w (RetBd Bk BA bc w) := by
 obtain ⟨hBb, hBA⟩ := arr_partsC hB
 refine J_enter (fun _ => False) (vs := [.slice BA Bk.length bc]) (k := 125) (l := [(0, .slice BA Bk.length bc)]) Tryz.func38 rfl rfl Tryz.ntmps38 rfl rfl (Wd.start _) ?_
 refine s10 ?_
 refine JL_dec (fun h18 => ?_) (fun h18 => ?_)
 ·refine aCB (fun w hw => need_yes _ _ w) ?_
  refine s4 ?_
  refine kJ [(0, _)] ?_
  refine s7 ?_
  refine xL (T := Nat) (fun i => i ≤ Bk.length ∧ fstBad Bk 0 = fstBad (Bk.drop i) i) (fun i => [(0, .slice BA Bk.length bc), (20, .slice BA Bk.length bc), (21, .int .i64 ((Bk.length : Nat) : Int)), (22, .int .i64 (i : Nat))]) (fun i => []) (fun i => Bk.length - i) 0 ⟨Nat.zero_le _, rfl⟩ ?_
  rintro i ⟨hi, hfst⟩
  refine s3 ?_
  refine JL_dec (fun h23 => ?_) (fun h23 => ?_)
  ·refine s9 ?_
   have hlt : i < Bk.length := by omega
   obtain ⟨bB, pB, rfl, hhB⟩ := hBA (by intro e; subst e; simp at hlt)
   obtain ⟨⟨cn, cf, ct, ⟨fA, fn, fc, fl⟩, ⟨uA, un, uc, ul⟩, th⟩, hc⟩ : ∃ c, Bk[i]'hlt = c := ⟨_, rfl⟩
   have hcm : (⟨cn, cf, ct, ⟨fA, fn, fc, fl⟩, ⟨uA, un, uc, ul⟩, th⟩ : Cl) ∈ Bk := by rw [← hc]; exact List.getElem_mem _
   obtain ⟨hfs, hus, hfk, huk, hnk, htk⟩ := hcl _ hcm
   obtain rfl : fn = fl.length := dv_nc hfs
   obtain rfl : un = ul.length := dv_nc hus
   dsimp only [Dv.v] at hfs hus hfk huk hnk htk
   obtain ⟨hfb, hfA⟩ := arr_parts hfs
   obtain ⟨hub, huA⟩ := arr_parts hus
   refine s3 ?_
   refine aV (vHoldA (cs := [.string cn, .int .i64 cf, .int .i64 ct, .slice fA fl.length fc, .slice uA ul.length uc, .string th]) EC6 rfl rfl (fun h => h) hhB hlt (by rw [hc]; rfl)) ?_
   refine aW oA (fun b4 hb4 => ?_)
   refine s4 ?_
   refine kJ [(0, _), (3, _), (4, _), (20, _), (21, _), (22, _)] ?_
   refine s2 ?_
   refine aCB (fun w hw => CheckClause28 _ w ((hcl _ hcm).up hw.bel)) ?_
   refine JL_bool (fun h28 => ?_) (fun h28 => ?_)
   ·refine s1 ?_
    refine aCB (fun w hw => need_yes _ _ w) ?_
    refine s3 ?_
    refine kJ [(0, _), (20, _), (21, _), (22, _)] ?_
    refine s4 ?_
    have hn : fstBad Bk 0 = fstBad (Bk.drop (i + 1)) (i + 1) := by rw [hfst, List.drop_eq_getElem_cons hlt, hc]; show (if clB _ = true then _ else _) = _; rw [h28]; rfl
    exact xR (i + 1) ⟨by omega, hn⟩ (by omega)
   ·refine s1 ?_
    refine aPan (ecF rfl rfl) (fun w hw => need_no _ _ w) ?_
    refine s5 ?_
    refine JR_panic ?_
    intro w' hw
    have e : bndF Bk = some (((i : Nat) : Int), 2) := by unfold bndF; rw [if_neg (by omega), hfst, List.drop_eq_getElem_cons hlt, hc]; unfold fstBad; rw [h28]; rfl
    unfold RetBd; rw [e]; exact ⟨rfl, hw.bel⟩
  ·refine s10 ?_
   obtain rfl : i = Bk.length := by omega
   rw [List.drop_length] at hfst
   replace hfst : fstBad Bk 0 = none := hfst
   refine kJ [(0, _)] ?_
   refine s2 ?_
   refine aW (ow_makeK (kt := 9) (e := 3) (kv := kS) (ok := okS) (ed := dI) rfl rfl rfl (fun _ => by kernel_rfl)) (fun b33 hb33 => ?_)
   refine aP (rp_buildC (fun us => [us.getD 0 undef, us.getD 1 undef, .int .i64 0]) rfl rfl (fun w => by kernel_rfl)) ?_
   refine aW (oX [_, _, _]) (fun b35 hb35 => ?_)
   refine s5 ?_
   refine J_leK (k' := 4096 - mea ((Bk.length : Nat) : Int) Bk (fun _ => none)) (by repeat constructor) (Nat.zero_le _) ?_
   refine kJ [(0, _), (5, _)] ?_
   refine s5 ?_
   refine xL (T := Nat × LM × Bool) (fun q => InM ((Bk.length : Nat) : Int) q.2.1 ∧ (if q.2.2 = true then lvl Bk = lvF ((Bk.length : Nat) : Int) Bk q.1 q.2.1 ∧ mea ((Bk.length : Nat) : Int) Bk q.2.1 < q.1 else lvl Bk = some q.2.1)) (fun q => [(0, .slice BA Bk.length bc), (5, .pointer (some ⟨b35, 0, none⟩)), (6, .bool q.2.2)]) (fun q => [cellB b35 [.slice BA Bk.length bc, .map (some b33), .int .i64 0] 189, mapK Tryz.prog 9 3 kS okS dI b33 (4096 - mea (Bk.length : Nat) Bk q.2.1) q.2.1]) (fun q => q.1) (Bk.length * Bk.length + 1, (fun _ => none), true) ⟨InM.nil (by omega), by rw [if_pos rfl]; exact ⟨rfl, by have := mea_0 ((Bk.length : Nat) : Int) Bk; rw [Int.toNat_natCast] at this; dsimp only; omega⟩⟩ ?_
   rintro ⟨k, m, more⟩ ⟨hin, hlv⟩
   dsimp only at hin hlv ⊢
   refine s6 ?_
   refine J_ifb rfl (fun h36 => ?_) (fun h36 => ?_)
   ·subst h36
    refine s4 ?_
    rw [if_pos rfl] at hlv
    obtain ⟨k, rfl⟩ : ∃ j, k = j + 1 := ⟨k - 1, by omega⟩
    have hmc := mea_le (N := ((Bk.length : Nat) : Int)) (m := fun _ => none) (m' := m) (fun x => (hin x).1) Bk
    have hmc0 := mea_0 ((Bk.length : Nat) : Int) Bk
    rw [Int.toNat_natCast] at hmc0
    have hNN : Bk.length * Bk.length ≤ 4096 := Nat.mul_le_mul (show Bk.length ≤ 64 by omega) (show Bk.length ≤ 64 by omega)
    refine s12 ?_
    refine xL (T := Nat × LM × Bool) (fun q => q.1 ≤ Bk.length ∧ InM ((Bk.length : Nat) : Int) q.2.1 ∧ rdF ((Bk.length : Nat) : Int) (Bk.drop q.1) q.2.1 q.2.2 = rdF ((Bk.length : Nat) : Int) Bk m false ∧ (q.2.2 = true → mea ((Bk.length : Nat) : Int) Bk q.2.1 < mea ((Bk.length : Nat) : Int) Bk m) ∧ mea ((Bk.length : Nat) : Int) Bk q.2.1 ≤ mea ((Bk.length : Nat) : Int) Bk m) (fun q => [(0, .slice BA Bk.length bc), (5, .pointer (some ⟨b35, 0, none⟩)), (6, .bool q.2.2), (37, .slice BA Bk.length bc), (38, .int .i64 ((Bk.length : Nat) : Int)), (39, .int .i64 (q.1 : Nat))]) (fun q => [cellB b35 [.slice BA Bk.length bc, .map (some b33), .int .i64 0] 189, mapK Tryz.prog 9 3 kS okS dI b33 (4096 - mea (Bk.length : Nat) Bk q.2.1) q.2.1]) (fun q => Bk.length - q.1) (0, m, false) ⟨Nat.zero_le _, hin, rfl, nofun, Nat.le_refl _⟩ ?_
    rintro ⟨i, m1, bb⟩ ⟨hi, hin1, hrd, hbt, hml⟩
    dsimp only at hi hin1 hrd hbt hml ⊢
    refine s3 ?_
    refine JL_dec (fun h40 => ?_) (fun h40 => ?_)
    ·refine s9 ?_
     have hlt : i < Bk.length := by omega
     obtain ⟨bB, pB, rfl, hhB⟩ := hBA (by intro e; subst e; simp at hlt)
     obtain ⟨⟨cn, cf, ct, ⟨fA, fn, fc, fl⟩, ⟨uA, un, uc, ul⟩, th⟩, hc⟩ : ∃ c, Bk[i]'hlt = c := ⟨_, rfl⟩
     have hcm : (⟨cn, cf, ct, ⟨fA, fn, fc, fl⟩, ⟨uA, un, uc, ul⟩, th⟩ : Cl) ∈ Bk := by rw [← hc]; exact List.getElem_mem _
     obtain ⟨hfs, hus, hfk, huk, hnk, htk⟩ := hcl _ hcm
     obtain rfl : fn = fl.length := dv_nc hfs
     obtain rfl : un = ul.length := dv_nc hus
     dsimp only [Dv.v] at hfs hus hfk huk hnk htk
     obtain ⟨hfb, hfA⟩ := arr_parts hfs
     obtain ⟨hub, huA⟩ := arr_parts hus
     have hrc : rdF ((Bk.length : Nat) : Int) (Bk.drop i) m1 bb = if lvC m1 ⟨cn, cf, ct, ⟨fA, fl.length, fc, fl⟩, ⟨uA, ul.length, uc, ul⟩, th⟩ ≤ ((Bk.length : Nat) : Int) then rdF ((Bk.length : Nat) : Int) (Bk.drop (i + 1)) (if gM m1 th < lvC m1 ⟨cn, cf, ct, ⟨fA, fl.length, fc, fl⟩, ⟨uA, ul.length, uc, ul⟩, th⟩ then upd m1 th (lvC m1 ⟨cn, cf, ct, ⟨fA, fl.length, fc, fl⟩, ⟨uA, ul.length, uc, ul⟩, th⟩) else m1) (if gM m1 th < lvC m1 ⟨cn, cf, ct, ⟨fA, fl.length, fc, fl⟩, ⟨uA, ul.length, uc, ul⟩, th⟩ then true else bb) else none := by rw [List.drop_eq_getElem_cons hlt, hc]; rfl
     refine s2 ?_
     refine aV (vHoldA (cs := [.string cn, .int .i64 cf, .int .i64 ct, .slice fA fl.length fc, .slice uA ul.length uc, .string th]) EC6 rfl rfl (fun h => h) hhB hlt (by rw [hc]; rfl)) ?_
     refine aW oA (fun b8 hb8 => ?_)
     refine s4 ?_
     refine xD [0, 1, 2, 3, 4, 5, 6, 7] [3, 5, 6] ?_
     refine s6 ?_
     refine dL rfl (rv_lookK KS LI64 th Und.h rfl rfl rfl (by repeat constructor) rfl htk) ?_
     refine s5 ?_
     refine kJ [(0, _), (5, _), (6, _), (8, _), (9, _), (37, _), (38, _), (39, _)] ?_
     refine s8 ?_
     refine xL (T := Nat) (fun j => j ≤ fl.length) (fun j => [(0, .slice (some ⟨bB, pB, none⟩) Bk.length bc), (5, .pointer (some ⟨b35, 0, none⟩)), (6, .bool bb), (37, .slice (some ⟨bB, pB, none⟩) Bk.length bc), (38, .int .i64 ((Bk.length : Nat) : Int)), (39, .int .i64 (i : Nat)), (8, .pointer (some ⟨b8, 0, none⟩)), (9, .int .i64 (mxF m1 (gM m1 th) (fl.take j))), (51, .slice fA fl.length fc), (52, .int .i64 (fl.length : Nat)), (53, .int .i64 (j : Nat))]) (fun j => [cellB b8 [.string cn, .int .i64 cf, .int .i64 ct, .slice fA fl.length fc, .slice uA ul.length uc, .string th] 112, cellB b35 [.slice (some ⟨bB, pB, none⟩) Bk.length bc, .map (some b33), .int .i64 0] 189, mapK Tryz.prog 9 3 kS okS dI b33 (4096 - mea (Bk.length : Nat) Bk m1) m1]) (fun j => fl.length - j) 0 (Nat.zero_le _) ?_
     rintro j hj
     refine s3 ?_
     refine JL_dec (fun h54 => ?_) (fun h54 => ?_)
     ·refine s9 ?_
      have hlty : j < fl.length := by omega
      obtain ⟨bqy, pqy, rfl, hhf⟩ := hfA (by intro e; rw [e] at hlty; simp at hlty)
      obtain ⟨y, hy⟩ : ∃ y, fl[j]'hlty = y := ⟨_, rfl⟩
      have hmy : y ∈ fl := by rw [← hy]; exact List.getElem_mem _
      refine s2 ?_
      refine aV (vHold rfl rfl (fun h => h) hhf hlty (by omega) (by rw [hy]; rfl)) ?_
      refine s10 ?_
      refine aV (rv_lookK KS LI64 y Und.h rfl rfl rfl (by repeat constructor) rfl (hfk y hmy)) ?_
      refine s5 ?_
      refine kJ [(0, _), (5, _), (6, _), (8, _), (9, _), (37, _), (38, _), (39, _), (51, _), (52, _), (53, _)] ?_
      refine s4 ?_
      have hs := mxF_s m1 (gM m1 th) fl j hlty
      rw [hy] at hs
      exact xR (j + 1) (by omega) (by omega) (hl := ⟨rfl, rfl, rfl, rfl, rfl, rfl, rfl, (by rw [hs]; rfl), rfl, rfl, (congrArg some (by go_num)), trivial⟩)
     ·refine s11 ?_
      obtain rfl : j = fl.length := by omega
      rw [List.take_length]
      obtain ⟨n1, hn1⟩ : ∃ n, mxF m1 (gM m1 th) fl = n := ⟨_, rfl⟩
      rw [hn1]
      have hn1b := mxF_in hin1 fl (gM m1 th) (hin1 th)
      rw [hn1] at hn1b
      refine kJ [(0, _), (5, _), (6, _), (8, _), (9, _), (37, _), (38, _), (39, _)] ?_
      refine s8 ?_
      refine xL (T := Nat) (fun j => j ≤ ul.length) (fun j => [(0, .slice (some ⟨bB, pB, none⟩) Bk.length bc), (5, .pointer (some ⟨b35, 0, none⟩)), (6, .bool bb), (37, .slice (some ⟨bB, pB, none⟩) Bk.length bc), (38, .int .i64 ((Bk.length : Nat) : Int)), (39, .int .i64 (i : Nat)), (8, .pointer (some ⟨b8, 0, none⟩)), (9, .int .i64 (mxU m1 n1 (ul.take j))), (67, .slice uA ul.length uc), (68, .int .i64 (ul.length : Nat)), (69, .int .i64 (j : Nat))]) (fun j => [cellB b8 [.string cn, .int .i64 cf, .int .i64 ct, .slice fA fl.length fc, .slice uA ul.length uc, .string th] 112, cellB b35 [.slice (some ⟨bB, pB, none⟩) Bk.length bc, .map (some b33), .int .i64 0] 189, mapK Tryz.prog 9 3 kS okS dI b33 (4096 - mea (Bk.length : Nat) Bk m1) m1]) (fun j => ul.length - j) 0 (Nat.zero_le _) ?_
      rintro j hj
      refine s3 ?_
      refine JL_dec (fun h70 => ?_) (fun h70 => ?_)
      ·refine s9 ?_
       have hlty : j < ul.length := by omega
       obtain ⟨bqy, pqy, rfl, hhu⟩ := huA (by intro e; rw [e] at hlty; simp at hlty)
       obtain ⟨y, hy⟩ : ∃ y, ul[j]'hlty = y := ⟨_, rfl⟩
       have hmy : y ∈ ul := by rw [← hy]; exact List.getElem_mem _
       have hgy : 0 ≤ (m1 y).getD 0 ∧ (m1 y).getD 0 ≤ ((Bk.length : Nat) : Int) := hin1 y
       refine s2 ?_
       refine aV (vHold rfl rfl (fun h => h) hhu hlty (by omega) (by rw [hy]; rfl)) ?_
       refine s10 ?_
       refine aV (rv_lookK KS LI64 y Und.h rfl rfl rfl (by repeat constructor) rfl (huk y hmy)) ?_
       refine s6 ?_
       refine kJ [(0, _), (5, _), (6, _), (8, _), (9, _), (37, _), (38, _), (39, _), (67, _), (68, _), (69, _)] ?_
       refine s4 ?_
       have hs := mxU_s m1 n1 ul j hlty
       rw [hy] at hs
       exact xR (j + 1) (by omega) (by omega) (hl := ⟨rfl, rfl, rfl, rfl, rfl, rfl, rfl, (by rw [hs]; rfl), rfl, rfl, (congrArg some (by go_num)), trivial⟩)
      ·refine s10 ?_
       obtain rfl : j = ul.length := by omega
       rw [List.take_length]
       obtain ⟨lv, hlv9'⟩ : ∃ n, mxU m1 n1 ul = n := ⟨_, rfl⟩
       rw [hlv9']
       have hlv9 : lvC m1 ⟨cn, cf, ct, ⟨fA, fl.length, fc, fl⟩, ⟨uA, ul.length, uc, ul⟩, th⟩ = lv := by rw [← hlv9', ← hn1]; rfl
       have hlvb := mxU_in hin1 ul n1 (by omega)
       rw [hlv9'] at hlvb
       refine kJ [(0, _), (5, _), (6, _), (8, _), (9, _), (37, _), (38, _), (39, _)] ?_
       refine s5 ?_
       refine JL_dec (fun h86 => ?_) (fun h86 => ?_)
       ·refine aCB (fun w hw => need_yes _ _ w) ?_
        refine s3 ?_
        refine kJ [(0, _), (5, _), (6, _), (8, _), (9, _), (37, _), (38, _), (39, _)] ?_
        refine xD [0, 1, 2, 3, 4, 5, 6, 7, 8] [4, 6, 7] ?_
        refine s7 ?_
        refine dL rfl (rv_lookK KS LI64 th Und.h rfl rfl rfl (by repeat constructor) rfl htk) ?_
        refine s1 ?_
        refine dDec (fun h96 => ?_) (fun h96 => ?_)
        ·refine dO [] ?_
         refine s3 ?_
         refine kJ [(0, _), (5, _), (8, _), (9, _), (37, _), (38, _), (39, _)] ?_
         refine xD [0, 1, 2, 3, 4, 5, 6, 7, 8, 9, 10] [3, 5] ?_
         refine s7 ?_
         refine dW rfl (ow_entK (okE := W64) (m'' := 4096 - mea ((Bk.length : Nat) : Int) Bk (upd m1 th lv)) (WideMaps.string_law Und.h) KS LI64 th Und.h rfl rfl rfl rfl rfl rfl (by intro s; repeat constructor) htk (by omega) (by have := mea_upd (N := ((Bk.length : Nat) : Int)) (m := m1) (x := th) (v := lv) h96 (by omega) Bk ⟨_, hcm, rfl⟩; omega)) (fun t104 _ => ?_)
         refine s1 ?_
         refine dW0 rfl (ow_entStore lv rfl rfl rfl rfl rfl rfl (show W64 lv by unfold W64; omega) (by repeat constructor)) ?_
         refine s4 ?_
         refine kJ [(0, _), (5, _), (6, _), (37, _), (38, _), (39, _)] ?_
         refine s4 ?_
         have hrn : rdF ((Bk.length : Nat) : Int) (Bk.drop (i + 1)) (upd m1 th lv) true = rdF ((Bk.length : Nat) : Int) Bk m false := by rw [← hrd, hrc, hlv9, if_pos (by omega), if_pos (by unfold gM; exact h96), if_pos (by unfold gM; exact h96)]
         have hmu := mea_upd (N := ((Bk.length : Nat) : Int)) (m := m1) (x := th) (v := lv) h96 (by omega) Bk ⟨_, hcm, rfl⟩
         exact xR (i + 1, (upd m1 th lv), true) ⟨by dsimp only; omega, hin1.upd (by omega) (by omega), hrn, fun _ => by dsimp only; omega, by dsimp only; omega⟩ (by dsimp only; omega)
        ·refine dO [] ?_
         refine s6 ?_
         refine kJ [(0, _), (5, _), (6, _), (37, _), (38, _), (39, _)] ?_
         refine s4 ?_
         have hrn : rdF ((Bk.length : Nat) : Int) (Bk.drop (i + 1)) m1 bb = rdF ((Bk.length : Nat) : Int) Bk m false := by rw [← hrd, hrc, hlv9, if_pos (by omega), if_neg (by unfold gM; exact h96), if_neg (by unfold gM; exact h96)]
         exact xR (i + 1, m1, bb) ⟨by dsimp only; omega, hin1, hrn, hbt, hml⟩ (by dsimp only; omega)
       ·refine aPan (ecF rfl rfl) (fun w hw => need_no _ _ w) ?_
        refine s9 ?_
        refine JR_panic ?_
        intro w' hw
        have e2 : lvl Bk = none := by
         rw [hlv.1]; show (match rdF _ _ _ _ with | none => none | some (m', b) => if b then lvF _ Bk k m' else some m') = _; rw [← hrd, hrc, hlv9, if_neg (by omega)]
        have e : bndF Bk = some (-1, 9) := by unfold bndF; rw [if_neg (by omega), hfst, e2]
        unfold RetBd; rw [e]; exact ⟨rfl, hw.bel⟩
    ·refine s9 ?_
     obtain rfl : i = Bk.length := by omega
     rw [List.drop_length] at hrd
     have hf : rdF ((Bk.length : Nat) : Int) Bk m false = some (m1, bb) := hrd.symm
     have hnx : (if bb = true then lvl Bk = lvF ((Bk.length : Nat) : Int) Bk k m1 ∧ mea ((Bk.length : Nat) : Int) Bk m1 < k else lvl Bk = some m1) := by
      cases bb
      ·rw [if_neg (by simp), hlv.1]; unfold lvF; rw [hf]; rfl
      ·rw [if_pos rfl]
       exact ⟨by rw [hlv.1]; show (match rdF _ _ _ _ with | none => none | some (m', b) => if b then lvF _ Bk k m' else some m') = _; rw [hf]; rfl, by have := hbt rfl; omega⟩
     exact xR (k, m1, bb) ⟨hin1, hnx⟩ (by dsimp only; omega)
   ·subst h36
    refine s7 ?_
    rw [if_neg (by simp)] at hlv
    refine J_leK (k' := 4096) (by repeat constructor) (by omega) ?_
    refine s5 ?_
    refine aW (ow_range (ev := kI) KS Und.h rfl rfl rfl rfl (by intro r c; repeat constructor)) (fun t111 ht111 => ?_)
    refine s3 ?_
    refine xL (T := Nat × List ByteArray × Int × Option (ByteArray × Int)) (fun q => (0 ≤ q.2.2.1 ∧ q.2.2.1 ≤ ((Bk.length : Nat) : Int)) ∧ ∀ x ∈ q.2.1, gM m x ≤ q.2.2.1) (fun q => [(5, .pointer (some ⟨b35, 0, none⟩)), (111, .pointer (some ⟨t111.1, 0, none⟩))]) (fun q => [cellB b35 [.slice BA Bk.length bc, .map (some b33), .int .i64 q.2.2.1] 189, rngK Tryz.prog 9 3 kS okS kI dI b33 t111.1 4096 q.1 m q.2.1 q.2.2.2]) (fun q => q.1) (t111.2, [], 0, none) ⟨by dsimp only; omega, nofun⟩ ?_
    rintro ⟨cnt, S, top, last⟩ ⟨htop, hS⟩
    dsimp only at htop hS ⊢
    refine s2 ?_
    refine aW (ow_next (e := 3) (ed := dI) (b := b33) (m' := 4096) (cnt := cnt) (f := m) (S := S) (last := last) KS keyS LI64 rfl rfl rfl rfl (by intro u; repeat constructor)) (fun t112 ht112 => ?_)
    obtain _ | ⟨x, v, c'⟩ := t112
    ·dsimp only [nxP] at ht112
     have hu := ht112
     dsimp only [nxV, nxI]
     refine s11 ?_
     refine J_rngEnd (by repeat constructor) ?_
     refine s6 ?_
     refine JR_one rfl (rr_tmp rfl) ?_
     intro w' hw
     have e : bndF Bk = none := by unfold bndF; rw [if_neg (by omega), hfst, hlv]
     have hge : ∀ x, okS x → gM m x ≤ top := fun x hx => by
      cases hmx : m x with
      | none => unfold gM; rw [hmx]; exact htop.1
      | some v => exact hS x (hu x hx (by rw [hmx]; rfl))
     unfold RetBd; rw [e]
     exact ⟨⟨b35, b33, m, top⟩, ⟨hlv, hin, htop, hge⟩, rfl, hw.pick (by unfold BdG; repeat constructor)⟩
    ·obtain ⟨hu1, hu2, hu3, hu4⟩ := ht112
     dsimp only [nxV, nxI]
     have hvb := hin x
     unfold gM at hvb
     rw [hu2] at hvb
     dsimp only [Option.getD_some] at hvb
     refine s10 ?_
     refine aV (rv_entry rfl rfl (by repeat constructor)) ?_
     refine s4 ?_
     refine kJ [(5, _), (15, _), (111, _)] ?_
     refine s13 ?_
     have hS2 : ∀ z ∈ x :: S, gM m z ≤ max top v := by
      intro z hz
      rcases List.mem_cons.1 hz with rfl | hz
      ·unfold gM; rw [hu2]; exact Int.le_max_right _ _
      ·exact Int.le_trans (hS z hz) (Int.le_max_left _ _)
     exact xR (c', x :: S, max top v, some (x, v)) ⟨by dsimp only; omega, hS2⟩ (by dsimp only; omega)
 ·refine aPan (ecF rfl rfl) (fun w hw => need_no _ _ w) ?_
  refine s1 ?_
  refine JR_panic ?_
  intro w' hw
  have e : bndF Bk = some (-1, 3) := by unfold bndF; rw [if_pos (by omega)]
  unfold RetBd; rw [e]; exact ⟨rfl, hw.bel⟩
end Go.Proofs.YtmcpnoailbmkkaaGreatDoor
/- What holds: which clauses fire, round by round. -/
namespace Go.Proofs.YtmcpnoailbmkkaaGreatDoor
open Go Go.RowKit Go.Proofs
attribute [local irreducible] J JQ JL JA JD

/-! The plain model of what holds. -/
/-- What holds so far (the last first), the reasons, the order. -/
structure MS where
 S : List ByteArray
 R : LM
 O : List Int
def mkC (Bk : List Cl) (m : MS) (i : Nat) : MS := match Bk[i]? with
 | none => m
 | some c => if c.th ∈ m.S then m else ⟨c.th :: m.S, upd m.R c.th (i : Nat), m.O ++ [((i : Nat) : Int)]⟩
def mkL (Bk : List Cl) (m : MS) (l : List Nat) : MS := l.foldl (mkC Bk) m
def firB (ed : Int) (S : List ByteArray) (c : Cl) : Bool := decide (c.f ≤ ed ∧ ed ≤ c.t) && !decide (c.th ∈ S) && c.fs.l.all (fun x => decide (x ∈ S)) && !c.us.l.any (fun x => decide (x ∈ S))
/-- Whether clause i fires at a level. -/
def fiB (Bk : List Cl) (lv : LM) (n ed : Int) (S : List ByteArray) (i : Nat) : Bool := match Bk[i]? with
 | none => false
 | some c => decide (gM lv c.th = n) && firB ed S c
def firL (Bk : List Cl) (lv : LM) (n ed : Int) (S : List ByteArray) (k : Nat) : List Nat := (List.range k).filter (fiB Bk lv n ed S)
def rndF (Bk : List Cl) (lv : LM) (n ed : Int) : Nat → MS → MS
 | 0, m => m
 | k + 1, m => if firL Bk lv n ed m.S Bk.length = [] then m else rndF Bk lv n ed k (mkL Bk m (firL Bk lv n ed m.S Bk.length))
def muS (Bk : List Cl) (S : List ByteArray) : Nat := (Bk.filter (fun c => !decide (c.th ∈ S))).length
def levF (Bk : List Cl) (lv : LM) (ed : Int) (m : MS) (n : Nat) : MS := rndF Bk lv n ed (Bk.length + 1) m
def madF (Bk : List Cl) (lv : LM) (ed : Int) (k : Nat) (m : MS) : MS := (List.range k).foldl (levF Bk lv ed) m
theorem firL_s {Bk : List Cl} {lv : LM} {n ed : Int} {S : List ByteArray} {k : Nat} {c : Cl} (h : k < Bk.length) (hc : Bk[k]'h = c) : firL Bk lv n ed S (k + 1) = if gM lv c.th = n ∧ firB ed S c = true then firL Bk lv n ed S k ++ [k] else firL Bk lv n ed S k := by
 unfold firL
 rw [List.range_succ, List.filter_append]
 have e : fiB Bk lv n ed S k = (decide (gM lv c.th = n) && firB ed S c) := by unfold fiB; rw [List.getElem?_eq_getElem h, hc]
 by_cases h1 : gM lv c.th = n
 ·by_cases h2 : firB ed S c = true
  ·rw [if_pos ⟨h1, h2⟩]; simp [e, h1, h2]
  ·rw [if_neg (fun h => h2 h.2)]; simp [e, h1, h2]
 ·rw [if_neg (fun h => h1 h.1)]; simp [e, h1]
theorem firL_mem {Bk : List Cl} {lv : LM} {n ed : Int} {S : List ByteArray} {k i : Nat} (h : i ∈ firL Bk lv n ed S k) : i < k ∧ ∃ c, Bk[i]? = some c ∧ gM lv c.th = n ∧ firB ed S c = true := by
 unfold firL at h
 rw [List.mem_filter, List.mem_range] at h
 refine ⟨h.1, ?_⟩
 have h2 := h.2
 unfold fiB at h2
 cases hc : Bk[i]? with
 | none => rw [hc] at h2; cases h2
 | some c => rw [hc] at h2; simp at h2; exact ⟨c, rfl, h2.1, h2.2⟩
theorem mkC_sub (Bk : List Cl) (m : MS) (i : Nat) : ∀ x ∈ m.S, x ∈ (mkC Bk m i).S := by
 intro x hx; unfold mkC; split
 ·exact hx
 ·split
  ·exact hx
  ·exact List.mem_cons_of_mem _ hx
theorem mkL_sub (Bk : List Cl) : ∀ (l : List Nat) (m : MS), ∀ x ∈ m.S, x ∈ (mkL Bk m l).S
 | [], _, _, h => h
 | i :: l, m, x, h => mkL_sub Bk l (mkC Bk m i) x (mkC_sub Bk m i x h)
theorem mkC_has {Bk : List Cl} {m : MS} {i : Nat} {c : Cl} (h : Bk[i]? = some c) : c.th ∈ (mkC Bk m i).S := by
 unfold mkC; rw [h]; dsimp only; split
 ·assumption
 ·exact List.mem_cons_self
theorem muS_le {Bk : List Cl} {S S' : List ByteArray} (h : ∀ x ∈ S, x ∈ S') : muS Bk S' ≤ muS Bk S := by
 unfold muS
 induction Bk with
 | nil => exact Nat.le_refl _
 | cons c Bk ih =>
  rw [List.filter_cons, List.filter_cons]
  by_cases h1 : c.th ∈ S
  ·simp [h1, h _ h1, ih]
  ·by_cases h2 : c.th ∈ S'
   ·simp [h1, h2]; exact Nat.le_succ_of_le ih
   ·simp [h1, h2, ih]
theorem muS_lt {S S' : List ByteArray} (h : ∀ x ∈ S, x ∈ S') : ∀ {Bk : List Cl} {c : Cl}, c ∈ Bk → c.th ∉ S → c.th ∈ S' → muS Bk S' < muS Bk S
 | d :: Bk, c, hm, h1, h2 => by
  have hle := muS_le (Bk := Bk) h
  rcases List.mem_cons.1 hm with rfl | hm
  ·unfold muS at hle ⊢
   rw [List.filter_cons, List.filter_cons]
   simp [h1, h2]; omega
  ·have ih := muS_lt h hm h1 h2
   unfold muS at ih ⊢
   rw [List.filter_cons, List.filter_cons]
   by_cases h3 : d.th ∈ S
   ·simp [h3, h _ h3, ih]
   ·by_cases h4 : d.th ∈ S'
    ·simp [h3, h4]; omega
    ·simp [h3, h4, ih]
theorem muS_0 (Bk : List Cl) (S : List ByteArray) : muS Bk S ≤ Bk.length := List.length_filter_le _ _
theorem mkL_dec {Bk : List Cl} {lv : LM} {n ed : Int} {m : MS} (h : firL Bk lv n ed m.S Bk.length ≠ []) : muS Bk (mkL Bk m (firL Bk lv n ed m.S Bk.length)).S < muS Bk m.S := by
 cases hl : firL Bk lv n ed m.S Bk.length with
 | nil => exact absurd hl h
 | cons i r =>
  obtain ⟨hi, c, hc, -, hf⟩ := firL_mem (i := i) (by rw [hl]; exact List.mem_cons_self)
  refine muS_lt (mkL_sub Bk (i :: r) m) (List.mem_of_getElem? hc) ?_ (mkL_sub Bk r _ _ (mkC_has hc))
  unfold firB at hf
  simp at hf
  exact hf.1.1.2
theorem mkL_s (Bk : List Cl) (m : MS) (l : List Nat) (k : Nat) (h : k < l.length) : mkL Bk m (l.take (k + 1)) = mkC Bk (mkL Bk m (l.take k)) (l[k]'h) := by
 unfold mkL; rw [List.take_succ_eq_append_getElem h, List.foldl_append]; rfl
theorem madF_s (Bk : List Cl) (lv : LM) (ed : Int) (k : Nat) (m : MS) : madF Bk lv ed (k + 1) m = levF Bk lv ed (madF Bk lv ed k m) k := by
 unfold madF; rw [List.range_succ, List.foldl_append]; rfl

set_option maxRecDepth 100000 in
set_option maxHeartbeats 4000000 in
theorem stands73 (c : Cl) (ed : Int) (w : World) : Calls Tryz.prog 97 #[Clv c, .int .i64 ed] w (Back (.bool (decide (c.f ≤ ed ∧ ed ≤ c.t))) w) := by
 refine J_enter (fun _ => False) (vs := [Clv c, .int .i64 ed]) (k := 9) (l := [(0, Clv c), (1, .int .i64 ed)]) Tryz.func97 rfl rfl Tryz.ntmps97 rfl rfl (Wd.start _) ?_
 refine s2 ?_
 refine aW (oX [_, _, _, _, _, _]) (fun b2 hb2 => ?_)
 refine s10 ?_
 refine aCB (fun w hw => within65 _ _ _ w) ?_
 refine s4 ?_
 refine JR_one rfl (rr_tmp rfl) ?_
 intro w' hw
 exact ⟨rfl, hw.bel⟩
set_option maxRecDepth 100000 in
set_option maxHeartbeats 4000000 in
theorem fires87 (c : Cl) (S : List ByteArray) (ed : Int) (wp bp hb gb rb : Nat) (ov : Value) (w : World) (hrec : (cellB wp [.pointer (some ⟨bp, 0, none⟩), .int .i64 ed, .map (some hb), .map (some gb), .map (some rb), ov] 120).holds w) (hS : (setB Tryz.prog 9 kS okS hb S).holds w) (hc : ClW w c) : Calls Tryz.prog 137 #[.pointer (some ⟨wp, 0, none⟩), Clv c] w (Back (.bool (firB ed S c)) w) := by
 refine J_enter (fun _ => False) (vs := [.pointer (some ⟨wp, 0, none⟩), Clv c]) (k := 38) (l := [(0, .pointer (some ⟨wp, 0, none⟩)), (1, Clv c)]) Tryz.func137 rfl rfl Tryz.ntmps137 rfl rfl (Wd.start _) ?_
 refine s2 ?_
 refine aW (oX [_, _, _, _, _, _]) (fun b3 hb3 => ?_)
 refine s4 ?_
 refine xD [0, 1, 2, 3, 4, 5] [0, 4, 10, 12, 13, 20, 22, 29, 31] ?_
 refine s4 ?_
 refine dL rfl (vOld rfl rfl (fun h => h) (cellB_get hrec rfl)) ?_
 refine dCB rfl (fun w hw => stands73 c ed w) ?_
 refine dDec (fun h10 => ?_) (fun h10 => ?_)
 ·refine dO [6, 7, 8, 9, 10, 11, 12, 13] ?_
  refine s4 ?_
  refine dL rfl (vOld rfl rfl (fun h => h) (cellB_get hrec rfl)) ?_
  refine s2 ?_
  refine dL rfl (rv_lookSO KS LBool c.th Und.h rfl rfl rfl (fun h => h) hS rfl hc.tk) ?_
  refine dDec (fun h18 => ?_) (fun h18 => ?_)
  ·refine dO [14, 15, 16, 17, 18, 19, 20, 21, 22, 23, 24, 25, 26, 27, 28, 29, 30, 31, 32, 33, 34, 35] ?_
   refine s25 ?_
   refine JR_one rfl (rr_tmp rfl) ?_
   intro w' hw
   have e : firB ed S c = false := by unfold firB; rw [decide_eq_true h10, decide_eq_true h18] <;> simp
   rw [e]; exact ⟨rfl, hw.bel⟩
  ·refine dO [14, 15, 16, 17, 18, 19, 20, 21, 22, 23] ?_
   refine s6 ?_
   refine dL rfl (vOld rfl rfl (fun h => h) (cellB_get hrec rfl)) ?_
   refine s2 ?_
   refine dCB rfl (fun w hw => all102 c.fs.l S _ hb w (setB_up hS hw.bel) (hc.up hw.bel).fs hc.fk) ?_
   refine dBool (fun h28 => ?_) (fun h28 => ?_)
   ·refine dO [24, 25, 26, 27, 28, 29, 30, 31, 32] ?_
    refine s5 ?_
    refine dL rfl (vOld rfl rfl (fun h => h) (cellB_get hrec rfl)) ?_
    refine s2 ?_
    refine dCB rfl (fun w hw => any64 c.us.l S _ hb w (setB_up hS hw.bel) (hc.up hw.bel).us hc.uk) ?_
    refine dBool (fun h37 => ?_) (fun h37 => ?_)
    ·refine dO [33, 34, 35] ?_
     refine s6 ?_
     refine JR_one rfl (rr_tmp rfl) ?_
     intro w' hw
     have e : firB ed S c = false := by unfold firB; rw [decide_eq_true h10, decide_eq_false h18, h28, h37] <;> simp
     rw [e]; exact ⟨rfl, hw.bel⟩
    ·refine dO [33, 34, 35] ?_
     refine s6 ?_
     refine JR_one rfl (rr_tmp rfl) ?_
     intro w' hw
     have e : firB ed S c = true := by unfold firB; rw [decide_eq_true h10, decide_eq_false h18, h28, h37] <;> simp
     rw [e]; exact ⟨rfl, hw.bel⟩
   ·refine dO [24, 25, 26, 27, 28, 29, 30, 31, 32, 33, 34, 35] ?_
    refine s15 ?_
    refine JR_one rfl (rr_tmp rfl) ?_
    intro w' hw
    have e : firB ed S c = false := by unfold firB; rw [decide_eq_true h10, decide_eq_false h18, h28] <;> simp
    rw [e]; exact ⟨rfl, hw.bel⟩
 ·refine dO [6, 7, 8, 9, 10, 11, 12, 13, 14, 15, 16, 17, 18, 19, 20, 21, 22, 23, 24, 25, 26, 27, 28, 29, 30, 31, 32, 33, 34, 35] ?_
  refine s33 ?_
  refine JR_one rfl (rr_tmp rfl) ?_
  intro w' hw
  have e : firB ed S c = false := by unfold firB; rw [decide_eq_false h10] <;> simp
  rw [e]; exact ⟨rfl, hw.bel⟩
end Go.Proofs.YtmcpnoailbmkkaaGreatDoor
/- What holds: the rounds of a level. -/
namespace Go.Proofs.YtmcpnoailbmkkaaGreatDoor
open Go Go.RowKit Go.Proofs
attribute [local irreducible] J JQ JL JA JD

/-- Numbers as the program has them. -/
def ints (l : List Nat) : List Int := l.map (fun i => ((i : Nat) : Int))
theorem firL_len (Bk : List Cl) (lv : LM) (n ed : Int) (S : List ByteArray) (k : Nat) : (ints (firL Bk lv n ed S k)).length ≤ k := by
 rw [show (ints (firL Bk lv n ed S k)).length = (firL Bk lv n ed S k).length from List.length_map _]
 exact Nat.le_trans (List.length_filter_le _ _) (by rw [List.length_range]; exact Nat.le_refl _)
theorem ints_len (l : List Nat) : (ints l).length = l.length := List.length_map _
/-- A world's state, with the row of its order. -/
structure RS where
 m : MS
 A : Option Addr
 c : Nat
abbrev bookB (bp : Nat) (BA : Option Addr) (bn bc lb : Nat) (top : Int) : It := cellB bp [.slice BA bn bc, .map (some lb), .int .i64 top] 189
abbrev recB (wp bp hb gb rb : Nat) (ed : Int) (t : RS) : It := cellB wp [.pointer (some ⟨bp, 0, none⟩), .int .i64 ed, .map (some hb), .map (some gb), .map (some rb), .slice t.A t.m.O.length t.c] 120

set_option maxRecDepth 100000 in
set_option maxHeartbeats 4000000 in
theorem rounds70 (wp : Nat) (n : Int) (w : World) : Calls Tryz.prog 91 #[.pointer (some ⟨wp, 0, none⟩), .int .i64 n] w (Ret w (fun _ : Nat × Nat => True) (fun t => .func (.func 136) #[] #[.pointer (some ⟨t.1, 0, none⟩), .pointer (some ⟨t.2, 0, none⟩)]) (fun t => [cellB t.1 [.pointer (some ⟨wp, 0, none⟩)] 107, cellB t.2 [.int .i64 n] 3])) := by
 refine J_enter (fun _ => False) (vs := [.pointer (some ⟨wp, 0, none⟩), .int .i64 n]) (k := 4) (l := [(0, .pointer (some ⟨wp, 0, none⟩)), (1, .int .i64 n)]) Tryz.func91 rfl rfl Tryz.ntmps91 rfl rfl (Wd.start _) ?_
 refine s2 ?_
 refine aW (oX [_]) (fun b2 hb2 => ?_)
 refine aW (oX [_]) (fun b3 hb3 => ?_)
 refine s10 ?_
 refine JR_one rfl (rr_tmp rfl) ?_
 intro w' hw
 exact ⟨(b2, b3), trivial, rfl, hw.pick (by repeat constructor)⟩
set_option maxRecDepth 100000 in
set_option maxHeartbeats 4000000 in
theorem rounds86 (Bk : List Cl) (lv : LM) (BA : Option Addr) (bc lb : Nat) (top n ed : Int) (wp bp hb gb rb b2 b3 : Nat) (w0 : World) (E1 E2 : It) (φ : RS → Prop) (hbk : (bookB bp BA Bk.length bc lb top).holds w0) (hlv : (mapK Tryz.prog 9 3 kS okS dI lb (4096) lv).holds w0) (hB : Arr 6 eC w0 (.slice BA Bk.length bc) Bk) (hcl : ∀ c ∈ Bk, ClW w0 c) (hBl : Bk.length ≤ 64) : Itr Tryz.prog (T := RS) (Y := Option Addr × Nat × List Int) 136 #[.pointer (some ⟨b2, 0, none⟩), .pointer (some ⟨b3, 0, none⟩)] ⟨w0, fun _ => False, none, []⟩ φ (fun t X => [cellB b2 [.pointer (some ⟨wp, 0, none⟩)] 107, cellB b3 [.int .i64 n] 3, recB wp bp hb gb rb ed t, setB Tryz.prog 9 kS okS hb t.m.S, mapK Tryz.prog 9 3 kS okS dI rb (t.m.S.length) t.m.R, ownB 3 1 t.A t.m.O.length t.c (t.m.O.flatMap eI), E1, E2, X]) (fun t y => y.2.2 = (ints (firL Bk lv n ed t.m.S Bk.length)) ∧ y.2.2 ≠ []) (fun y => .slice y.1 y.2.2.length y.2.1) (fun t y X => [ownB 3 1 y.1 y.2.2.length y.2.1 (y.2.2.flatMap eI), cellB b2 [.pointer (some ⟨wp, 0, none⟩)] 107, cellB b3 [.int .i64 n] 3, recB wp bp hb gb rb ed t, setB Tryz.prog 9 kS okS hb t.m.S, mapK Tryz.prog 9 3 kS okS dI rb (t.m.S.length) t.m.R, ownB 3 1 t.A t.m.O.length t.c (t.m.O.flatMap eI), E1, E2, X]) (fun t t' => t'.m = mkL Bk t.m (firL Bk lv n ed t.m.S Bk.length)) (fun t => firL Bk lv n ed t.m.S Bk.length = []) := by
 intro lp X t0 W h0 hW hY
 obtain ⟨hBb, hBA⟩ := arr_partsC hB
 refine J_start (B := ⟨w0, fun _ => False, none, []⟩) rfl rfl (vs := [.func (.yield lp) #[] #[], .pointer (some ⟨b2, 0, none⟩), .pointer (some ⟨b3, 0, none⟩)]) (k := 48) (l := [(0, .func (.yield lp) #[] #[]), (1, .pointer (some ⟨b2, 0, none⟩)), (2, .pointer (some ⟨b3, 0, none⟩))]) Tryz.func136 rfl rfl Tryz.ntmps136 rfl rfl (hW) ?_
 refine s1 ?_
 refine xL (T := RS) (fun t => φ t) (fun t => [(0, .func (.yield lp) #[] #[]), (1, .pointer (some ⟨b2, 0, none⟩)), (2, .pointer (some ⟨b3, 0, none⟩))]) (fun t => [cellB b2 [.pointer (some ⟨wp, 0, none⟩)] 107, cellB b3 [.int .i64 n] 3, recB wp bp hb gb rb ed t, setB Tryz.prog 9 kS okS hb t.m.S, mapK Tryz.prog 9 3 kS okS dI rb (t.m.S.length) t.m.R, ownB 3 1 t.A t.m.O.length t.c (t.m.O.flatMap eI), E1, E2, X]) (fun t => muS Bk t.m.S) t0 h0 ?_
 rintro t ht
 refine s8 ?_
 refine J_own0 3 1 ?_
 refine s7 ?_
 refine aV (vOld rfl rfl (fun h => h) (cellB_get hbk rfl)) ?_
 refine s5 ?_
 refine xL (T := Nat × Option Addr × Nat) (fun q => q.1 ≤ Bk.length) (fun q => [(0, .func (.yield lp) #[] #[]), (1, .pointer (some ⟨b2, 0, none⟩)), (2, .pointer (some ⟨b3, 0, none⟩)), (4, .slice q.2.1 (ints (firL Bk lv n ed t.m.S q.1)).length q.2.2), (13, .slice BA Bk.length bc), (14, .int .i64 (Bk.length : Nat)), (15, .int .i64 (q.1 : Nat))]) (fun q => [ownB 3 1 q.2.1 (ints (firL Bk lv n ed t.m.S q.1)).length q.2.2 ((ints (firL Bk lv n ed t.m.S q.1)).flatMap eI), cellB b2 [.pointer (some ⟨wp, 0, none⟩)] 107, cellB b3 [.int .i64 n] 3, recB wp bp hb gb rb ed t, setB Tryz.prog 9 kS okS hb t.m.S, mapK Tryz.prog 9 3 kS okS dI rb (t.m.S.length) t.m.R, ownB 3 1 t.A t.m.O.length t.c (t.m.O.flatMap eI), E1, E2, X]) (fun q => Bk.length - q.1) (0, none, 0) (Nat.zero_le _) ?_
 rintro ⟨k, lA, lc⟩ hk
 dsimp only at hk ⊢
 refine s3 ?_
 refine JL_dec (fun h16 => ?_) (fun h16 => ?_)
 ·refine s9 ?_
  have hlt : k < Bk.length := by omega
  obtain ⟨bB, pB, rfl, hhB⟩ := hBA (by intro e; subst e; simp at hlt)
  obtain ⟨⟨cn, cf, ct, ⟨fA, fn, fc, fl⟩, ⟨uA, un, uc, ul⟩, th⟩, hc⟩ : ∃ c, Bk[k]'hlt = c := ⟨_, rfl⟩
  have hcm : (⟨cn, cf, ct, ⟨fA, fn, fc, fl⟩, ⟨uA, un, uc, ul⟩, th⟩ : Cl) ∈ Bk := by rw [← hc]; exact List.getElem_mem _
  obtain ⟨hfs, hus, hfk, huk, hnk, htk⟩ := hcl _ hcm
  obtain rfl : fn = fl.length := dv_nc hfs
  obtain rfl : un = ul.length := dv_nc hus
  dsimp only [Dv.v] at hfs hus hfk huk hnk htk
  obtain ⟨hfb, hfA⟩ := arr_parts hfs
  obtain ⟨hub, huA⟩ := arr_parts hus
  refine s3 ?_
  refine aV (vHoldA (cs := [.string cn, .int .i64 cf, .int .i64 ct, .slice fA fl.length fc, .slice uA ul.length uc, .string th]) EC6 rfl rfl (fun h => h) hhB hlt (by rw [hc]; rfl)) ?_
  refine aW oA (fun b6 hb6 => ?_)
  refine s5 ?_
  refine kJ [(0, _), (1, _), (2, _), (4, _), (5, _), (6, _), (13, _), (14, _), (15, _)] ?_
  refine xD [0, 1, 2, 3, 4, 5, 6, 7, 8, 9, 10, 11] [0, 3, 6, 8, 9, 10, 13, 14] ?_
  refine s6 ?_
  refine dL rfl (vOld rfl rfl (fun h => h) (cellB_get hbk rfl)) ?_
  refine s2 ?_
  refine dL rfl (rv_lookKO KS LI64 th Und.h rfl rfl rfl (fun h => h) hlv rfl htk) ?_
  refine s2 ?_
  refine dDec (fun h31 => ?_) (fun h31 => ?_)
  ·refine dO [12, 13, 14, 15] ?_
   refine s3 ?_
   refine dCB rfl (fun w hw => fires87 ⟨cn, cf, ct, ⟨fA, fl.length, fc, fl⟩, ⟨uA, ul.length, uc, ul⟩, th⟩ t.m.S ed wp bp hb gb rb _ w (hw.ok (recB wp bp hb gb rb ed t) (by repeat constructor)).1 (hw.ok (setB Tryz.prog 9 kS okS hb t.m.S) (by repeat constructor)).1 ((hcl _ hcm).up hw.bel)) ?_
   refine dBool (fun h35 => ?_) (fun h35 => ?_)
   ·refine dO [16] ?_
    refine s4 ?_
    have hll := firL_len Bk lv n ed t.m.S k
    refine kJ [(0, _), (1, _), (2, _), (4, _), (5, _), (13, _), (14, _), (15, _)] ?_
    refine s3 ?_
    refine aW (ow_sliceC (vs := [_]) (ty := 3) rfl rfl (by rfl) rfl rfl (fun _ => by kernel_rfl)) (fun b39 hb39 => ?_)
    refine aS (oApp (sl := 34) EI (((k : Nat) : Int))) (fun A40 c40 => ?_)
    refine s4 ?_
    refine kJ [(0, _), (1, _), (2, _), (4, _), (13, _), (14, _), (15, _)] ?_
    refine s4 ?_
    have hs : (ints (firL Bk lv n ed t.m.S (k + 1))) = (ints (firL Bk lv n ed t.m.S k)) ++ [((k : Nat) : Int)] := by rw [firL_s hlt hc, if_pos ⟨h31, h35⟩]; unfold ints; rw [List.map_append]; rfl
    exact xR (k + 1, A40, c40) (by dsimp only; omega) (by dsimp only; omega) (hl := ⟨rfl, rfl, rfl, (by dsimp only; rw [hs]; rfl), rfl, rfl, (congrArg some (by go_num)), trivial⟩) (hH := by (try dsimp only); rw [hs]; repeat constructor)
   ·refine dO [16] ?_
    refine s7 ?_
    refine kJ [(0, _), (1, _), (2, _), (4, _), (13, _), (14, _), (15, _)] ?_
    refine s4 ?_
    have hs : (ints (firL Bk lv n ed t.m.S (k + 1))) = (ints (firL Bk lv n ed t.m.S k)) := by rw [firL_s hlt hc, if_neg (fun h => by have := h.2; rw [h35] at this; cases this)]
    exact xR (k + 1, lA, lc) (by dsimp only; omega) (by dsimp only; omega) (hl := ⟨rfl, rfl, rfl, (by dsimp only; rw [hs]; rfl), rfl, rfl, (congrArg some (by go_num)), trivial⟩) (hH := by (try dsimp only); rw [hs]; repeat constructor)
  ·refine dO [12, 13, 14, 15, 16] ?_
   refine s11 ?_
   refine kJ [(0, _), (1, _), (2, _), (4, _), (13, _), (14, _), (15, _)] ?_
   refine s4 ?_
   have hs : (ints (firL Bk lv n ed t.m.S (k + 1))) = (ints (firL Bk lv n ed t.m.S k)) := by rw [firL_s hlt hc, if_neg (fun h => h31 h.1)]
   exact xR (k + 1, lA, lc) (by dsimp only; omega) (by dsimp only; omega) (hl := ⟨rfl, rfl, rfl, (by dsimp only; rw [hs]; rfl), rfl, rfl, (congrArg some (by go_num)), trivial⟩) (hH := by (try dsimp only); rw [hs]; repeat constructor)
 ·refine s10 ?_
  by_cases hne : (ints (firL Bk lv n ed t.m.S Bk.length)) = []
  ·obtain rfl : k = Bk.length := by omega
   refine kJ [(0, _), (1, _), (2, _), (4, _)] ?_
   refine s4 ?_
   refine aDecT ?_ (by rw [hne]; rfl)
   refine s13 ?_
   refine JR_none rfl ?_
   intro w' hw
   exact ⟨⟨_, rfl⟩, t, ht, by unfold ints at hne; exact List.map_eq_nil_iff.1 hne, hw.pick (by repeat constructor)⟩
  ·obtain rfl : k = Bk.length := by omega
   refine kJ [(0, _), (1, _), (2, _), (4, _)] ?_
   refine J_regI ?_
   refine iV (RP.rv (rp_move rfl rfl)) ?_
   refine iV (RP.rv gCall) ?_
   refine iV (RP.rv gBin) ?_
   refine iKF (p := ((((ints (firL Bk lv n ed t.m.S Bk.length))).length : Nat) : Int) = 0) (by have := List.length_pos_iff.2 hne; omega) ?_
   refine iV (RP.rv (rp_move rfl rfl)) ?_
   refine iV (RP.rv (rp_move rfl rfl)) ?_
   refine iV (RP.rv (rp_move rfl rfl)) ?_
   refine iY (T := RS) (φ := fun t' => t'.m = mkL Bk t.m (firL Bk lv n ed t.m.S Bk.length) ∧ φ t') (HH := fun t' => [cellB b2 [.pointer (some ⟨wp, 0, none⟩)] 107, cellB b3 [.int .i64 n] 3, recB wp bp hb gb rb ed t', setB Tryz.prog 9 kS okS hb t'.m.S, mapK Tryz.prog 9 3 kS okS dI rb (t'.m.S.length) t'.m.R, ownB 3 1 t'.A t'.m.O.length t'.c (t'.m.O.flatMap eI), E1, E2, X]) (fun W1 hW1 m => YieldAt.mono' (hY t (lA, lc, (ints (firL Bk lv n ed t.m.S Bk.length))) W1 ht ⟨rfl, hne⟩ (hW1.pick (by repeat constructor)) m) (fun e W2 h => ⟨h.1, h.2.imp fun t' h => ⟨⟨h.1, h.2.1⟩, h.2.2⟩⟩)) (fun t' ht'' => ?_)
   obtain ⟨hRn, ht'⟩ := ht''
   refine iV (RP.rv (pNot rfl rfl)) ?_
   refine iV (RP.rv pAny) ?_
   refine iN ?_
   refine s4 ?_
   exact xR t' ht' (by have := mkL_dec (Bk := Bk) (lv := lv) (n := n) (ed := ed) (m := t.m) (fun e => hne (by rw [e]; rfl)); rw [hRn]; omega)
end Go.Proofs.YtmcpnoailbmkkaaGreatDoor
/- What holds by a book, in an edition: made. -/
namespace Go.Proofs.YtmcpnoailbmkkaaGreatDoor
open Go Go.RowKit Go.Proofs
attribute [local irreducible] J JQ JL JA JD

structure MdT where
 wp : Nat
 hb : Nat
 gb : Nat
 rb : Nat
 t : RS
/-- What is asked is asked well. -/
def askB8 (ed : Int) (l : List ByteArray) : Bool := decide (0 ≤ ed ∧ ed ≤ 1000) && namesB l 64
def MdP (Bk : List Cl) (lv : LM) (tp : Nat) (ed : Int) (fl0 : List ByteArray) (t : MdT) : Prop := t.t.m = madF Bk lv ed (tp + 1) ⟨fl0.reverse, fun _ => none, []⟩ ∧ t.t.m.S.length ≤ 128 ∧ t.t.m.O.length ≤ t.t.m.S.length
def MdG (bp : Nat) (ed : Int) (fl0 : List ByteArray) (t : MdT) : List It := [recB t.wp bp t.hb t.gb t.rb ed t.t, setB Tryz.prog 9 kS okS t.hb t.t.m.S, mapK Tryz.prog 9 3 kS okS dI t.rb (t.t.m.S.length) t.t.m.R, ownB 3 1 t.t.A t.t.m.O.length t.t.c (t.t.m.O.flatMap eI), setB Tryz.prog 9 kS okS t.gb fl0.reverse]
def RetMd (Bk : List Cl) (lv : LM) (tp : Nat) (bp : Nat) (ed : Int) (fl0 : List ByteArray) (w : World) (e : Ending) (w' : World) : Prop := if askB8 ed fl0 = true then Ret w (MdP Bk lv tp ed fl0) (fun t => .pointer (some ⟨t.wp, 0, none⟩)) (MdG bp ed fl0) e w' else Fails (-1) 2 w e w'

set_option maxRecDepth 100000 in
set_option maxHeartbeats 4000000 in
theorem made40 (Bk : List Cl) (lv : LM) (BA : Option Addr) (bc lb tp bp : Nat) (ed : Int) (fl0 : List ByteArray) (fA0 : Option Addr) (fc0 : Nat) (w : World) (hbk : (bookB bp BA Bk.length bc lb (tp : Nat)).holds w) (hlv : (mapK Tryz.prog 9 3 kS okS dI lb (4096) lv).holds w) (hB : Arr 6 eC w (.slice BA Bk.length bc) Bk) (hcl : ∀ c ∈ Bk, ClW w c) (hBl : Bk.length ≤ 64) (htp : tp ≤ 64) (hfl : Arr 1 eS w (.slice fA0 fl0.length fc0) fl0) (hok : ∀ s ∈ fl0, okS s) : Calls Tryz.prog 39 #[.pointer (some ⟨bp, 0, none⟩), .int .i64 ed, .slice fA0 fl0.length fc0] w (RetMd Bk lv tp bp ed fl0 w) := by
 obtain ⟨hBb, hBA⟩ := arr_partsC hB
 refine J_startM (B := bs w) rfl rfl (vs := [.pointer (some ⟨bp, 0, none⟩), .int .i64 ed, .slice fA0 fl0.length fc0]) (k := 89) (l := [(0, .pointer (some ⟨bp, 0, none⟩)), (1, .int .i64 ed), (2, .slice fA0 fl0.length fc0)]) Tryz.func39 rfl rfl Tryz.ntmps39 rfl rfl (Wd.start (bs w)) ?_
 refine s8 ?_
 refine aCB (fun w hw => within65 _ _ _ w) ?_
 refine JL_dec (fun h14 => ?_) (fun h14 => ?_)
 ·refine s2 ?_
  refine aCB (fun w hw => rising62 fl0 64 _ w (hfl.up ES hw.bel) hok) ?_
  refine JL_bool (fun h17 => ?_) (fun h17 => ?_)
  ·refine s1 ?_
   refine aCB (fun w hw => need_yes _ _ w) ?_
   refine s3 ?_
   have hfn := namesB_len h17
   have hll : fl0.length ≤ 64 := by omega
   refine kJ [(0, _), (1, _), (2, _)] ?_
   refine s4 ?_
   refine aW (oR (fun w hw => of63 fl0 _ w (hfl.up ES hw.bel) hok (by omega))) (fun b23 _ => ?_)
   refine s1 ?_
   refine aW (oR (fun w hw => of63 fl0 _ w (hfl.up ES hw.bel) hok (by omega))) (fun b25 _ => ?_)
   refine aW (ow_makeK (kt := 9) (e := 3) (kv := kS) (ok := okS) (ed := dI) rfl rfl rfl (fun _ => by kernel_rfl)) (fun b26 hb26 => ?_)
   refine aP (rp_buildC (fun us => [us.getD 0 undef, us.getD 1 undef, us.getD 2 undef, us.getD 3 undef, us.getD 4 undef, .slice none 0 0]) rfl rfl (fun w => by kernel_rfl)) ?_
   refine aW (oX [_, _, _, _, _, _]) (fun b28 hb28 => ?_)
   refine aW oA (fun b7 hb7 => ?_)
   refine s5 ?_
   refine J_own0 3 1 ?_
   refine J_defs ?_
   refine J_leK (k' := fl0.reverse.length) (by repeat constructor) (Nat.zero_le _) ?_
   refine kJ [(0, _), (7, _)] ?_
   refine s4 ?_
   refine aV (vOld rfl rfl (fun h => h) (cellB_get hbk rfl)) ?_
   refine s5 ?_
   refine J_loopD (T := Nat × RS × List Nat) (fun q => ⟨w, fun _ => False, none, q.2.2.map mark⟩) (r := none) (fun _ => rfl) (fun q => q.1 ≤ tp + 1 ∧ q.2.1.m = madF Bk lv ed q.1 ⟨fl0.reverse, fun _ => none, []⟩ ∧ q.2.1.m.S.length + muS Bk q.2.1.m.S ≤ 128 ∧ q.2.1.m.O.length ≤ q.2.1.m.S.length) (fun q => [(0, .pointer (some ⟨bp, 0, none⟩)), (7, .pointer (some ⟨b7, 0, none⟩)), (33, .int .i64 ((tp : Nat) + 1)), (34, .int .i64 (q.1 : Nat))]) (fun q => [recB b28 bp b23 b25 b26 ed q.2.1, setB Tryz.prog 9 kS okS b23 q.2.1.m.S, mapK Tryz.prog 9 3 kS okS dI b26 (q.2.1.m.S.length) q.2.1.m.R, ownB 3 1 q.2.1.A q.2.1.m.O.length q.2.1.c (q.2.1.m.O.flatMap eI), cellB b7 [.pointer (some ⟨b28, 0, none⟩)] 107, setB Tryz.prog 9 kS okS b25 fl0.reverse, defsB q.2.2]) (fun q => tp + 1 - q.1) (0, ⟨⟨fl0.reverse, fun _ => none, []⟩, none, 0⟩, []) ⟨Nat.zero_le _, rfl, by dsimp only; rw [List.length_reverse]; have := muS_0 Bk fl0.reverse; omega, Nat.zero_le _⟩ (by exact cov) (by repeat constructor) ?_
   rintro ⟨k, t0, Ds⟩ ⟨hk, hm0, hc1, hc2⟩
   dsimp only at hk hm0 hc1 hc2 ⊢
   refine s3 ?_
   refine JL_dec (fun h35 => ?_) (fun h35 => ?_)
   ·refine s18 ?_
    refine aW (oR (fun w hw => rounds70 b28 (k : Nat) w)) (fun t39 _ => ?_)
    obtain ⟨cw1, cw2⟩ := t39
    dsimp only
    refine s3 ?_
    refine kJ [(0, _), (7, _), (33, _), (34, _), (39, _)] ?_
    refine J_range (T := RS) (Y := Option Addr × Nat × List Int) (p := 40) (fun t => (∃ j, levF Bk lv ed (madF Bk lv ed k ⟨fl0.reverse, fun _ => none, []⟩) k = rndF Bk lv ((k : Nat) : Int) ed j t.m ∧ muS Bk t.m.S < j) ∧ t.m.S.length + muS Bk t.m.S ≤ 128 ∧ t.m.O.length ≤ t.m.S.length) (fun t X => [cellB cw1 [.pointer (some ⟨b28, 0, none⟩)] 107, cellB cw2 [.int .i64 (k : Nat)] 3, recB b28 bp b23 b25 b26 ed t, setB Tryz.prog 9 kS okS b23 t.m.S, mapK Tryz.prog 9 3 kS okS dI b26 (t.m.S.length) t.m.R, ownB 3 1 t.A t.m.O.length t.c (t.m.O.flatMap eI), cellB b7 [.pointer (some ⟨b28, 0, none⟩)] 107, setB Tryz.prog 9 kS okS b25 fl0.reverse, X]) (fun t y => y.2.2 = ints (firL Bk lv ((k : Nat) : Int) ed t.m.S Bk.length) ∧ y.2.2 ≠ []) (fun y => .slice y.1 y.2.2.length y.2.1) (fun t y X => [ownB 3 1 y.1 y.2.2.length y.2.1 (y.2.2.flatMap eI), cellB cw1 [.pointer (some ⟨b28, 0, none⟩)] 107, cellB cw2 [.int .i64 (k : Nat)] 3, recB b28 bp b23 b25 b26 ed t, setB Tryz.prog 9 kS okS b23 t.m.S, mapK Tryz.prog 9 3 kS okS dI b26 (t.m.S.length) t.m.R, ownB 3 1 t.A t.m.O.length t.c (t.m.O.flatMap eI), cellB b7 [.pointer (some ⟨b28, 0, none⟩)] 107, setB Tryz.prog 9 kS okS b25 fl0.reverse, X]) (fun t t' => t'.m = mkL Bk t.m (firL Bk lv ((k : Nat) : Int) ed t.m.S Bk.length)) (fun t => (firL Bk lv ((k : Nat) : Int) ed t.m.S Bk.length) = []) (fun y => [(7, .pointer (some ⟨b7, 0, none⟩)), (9, .slice y.1 y.2.2.length y.2.1)]) (rounds86 Bk lv BA bc lb tp (k : Nat) ed b28 bp b23 b25 b26 cw1 cw2 w (cellB b7 [.pointer (some ⟨b28, 0, none⟩)] 107) (setB Tryz.prog 9 kS okS b25 fl0.reverse) _ hbk hlv hB hcl hBl) (t0) (⟨⟨Bk.length + 1, by rw [hm0]; rfl, by have := muS_0 Bk t0.m.S; omega⟩, hc1, hc2⟩) ?_ ?_ ?_
    ·rintro lp t ⟨yA, yc, yl⟩ X ⟨hfu, ht2⟩ ⟨hy1, hy2⟩
     dsimp only at hy1 hy2 ⊢
     refine kJ [(7, _), (40, _)] ?_
     refine s3 ?_
     exact xE () trivial
    ·rintro lp t ⟨yA, yc, yl⟩ X ⟨hfu, ht2⟩ ⟨hy1, hy2⟩
     dsimp only at hy1 hy2 ⊢
     refine s9 ?_
     refine xL (T := Nat × RS) (fun q => q.1 ≤ yl.length ∧ q.2.m = mkL Bk t.m ((firL Bk lv ((k : Nat) : Int) ed t.m.S Bk.length).take q.1) ∧ q.2.m.S.length + muS Bk q.2.m.S ≤ 128 ∧ q.2.m.O.length ≤ q.2.m.S.length) (fun q => [(7, .pointer (some ⟨b7, 0, none⟩)), (41, .slice yA yl.length yc), (42, .int .i64 (yl.length : Nat)), (43, .int .i64 (q.1 : Nat))]) (fun q => [ownB 3 1 yA yl.length yc (yl.flatMap eI), cellB cw1 [.pointer (some ⟨b28, 0, none⟩)] 107, cellB cw2 [.int .i64 (k : Nat)] 3, recB b28 bp b23 b25 b26 ed q.2, setB Tryz.prog 9 kS okS b23 q.2.m.S, mapK Tryz.prog 9 3 kS okS dI b26 (q.2.m.S.length) q.2.m.R, ownB 3 1 q.2.A q.2.m.O.length q.2.c (q.2.m.O.flatMap eI), cellB b7 [.pointer (some ⟨b28, 0, none⟩)] 107, setB Tryz.prog 9 kS okS b25 fl0.reverse, X]) (fun q => yl.length - q.1) (0, t) ⟨Nat.zero_le _, rfl, ht2⟩ ?_
     rintro ⟨j, t1⟩ ⟨hj, hm1, hd1, hd2⟩
     dsimp only at hj hm1 hd1 hd2 ⊢
     refine s3 ?_
     refine JL_dec (fun h44 => ?_) (fun h44 => ?_)
     ·refine s9 ?_
      have hltj : j < yl.length := by omega
      have hyb : yl.length ≤ Bk.length := by rw [hy1]; exact firL_len _ _ _ _ _ _
      refine J_fact (fun hw => ?_)
      obtain ⟨yg, rfl⟩ := own_some hw (ty := 3) (k := 1) (m := yl.length) (c := yc) (A := yA) (xs := yl.flatMap eI) (by repeat constructor) (by omega)
      clear hw
      have hjl : j < (firL Bk lv ((k : Nat) : Int) ed t.m.S Bk.length).length := by rw [← ints_len, ← hy1]; exact hltj
      obtain ⟨i, hi⟩ : ∃ i, (firL Bk lv ((k : Nat) : Int) ed t.m.S Bk.length)[j]'hjl = i := ⟨_, rfl⟩
      have hij : yl[j]'hltj = ((i : Nat) : Int) := by
       simp only [hy1, ints, List.getElem_map, hi]
      obtain ⟨hib, cc, hci, -⟩ := firL_mem (i := i) (by rw [← hi]; exact List.getElem_mem _)
      have hlt : i < Bk.length := by omega
      obtain ⟨bB, pB, rfl, hhB⟩ := hBA (by intro e; subst e; simp at hlt)
      obtain ⟨⟨cn, cf, ct, ⟨fA, fn, fc, fl⟩, ⟨uA, un, uc, ul⟩, th⟩, hc⟩ : ∃ c, Bk[i]'hlt = c := ⟨_, rfl⟩
      have hcm : (⟨cn, cf, ct, ⟨fA, fn, fc, fl⟩, ⟨uA, un, uc, ul⟩, th⟩ : Cl) ∈ Bk := by rw [← hc]; exact List.getElem_mem _
      obtain ⟨hfs, hus, hfk, huk, hnk, htk⟩ := hcl _ hcm
      obtain rfl : fn = fl.length := dv_nc hfs
      obtain rfl : un = ul.length := dv_nc hus
      dsimp only [Dv.v] at hfs hus hfk huk hnk htk
      obtain ⟨hfb, hfA⟩ := arr_parts hfs
      obtain ⟨hub, huA⟩ := arr_parts hus
      obtain rfl : cc = ⟨cn, cf, ct, ⟨fA, fl.length, fc, fl⟩, ⟨uA, ul.length, uc, ul⟩, th⟩ := by rw [List.getElem?_eq_getElem hlt, hc] at hci; exact (Option.some.inj hci).symm
      refine s2 ?_
      refine aV (vOwn EI rfl rfl (by repeat constructor) hltj (by omega) (by rw [hij]; rfl)) ?_
      refine s11 ?_
      refine aV (vOld rfl rfl (fun h => h) (cellB_get hbk rfl)) ?_
      refine s3 ?_
      refine aV (vHold rfl rfl (fun h => h) hhB hlt (by omega) (by rw [hc]; rfl)) ?_
      refine s5 ?_
      refine kJ [(7, _), (11, _), (12, _), (41, _), (42, _), (43, _)] ?_
      refine s6 ?_
      refine aV (rv_lookS KS LBool th Und.h rfl rfl rfl (by repeat constructor) rfl htk) ?_
      refine JL_dec (fun h63 => ?_) (fun h63 => ?_)
      ·refine s7 ?_
       refine kJ [(7, _), (41, _), (42, _), (43, _)] ?_
       refine s4 ?_
       have hs : mkL Bk t.m ((firL Bk lv ((k : Nat) : Int) ed t.m.S Bk.length).take (j + 1)) = t1.m := by rw [mkL_s Bk t.m _ j hjl, ← hm1, hi]; unfold mkC; rw [hci]; dsimp only; rw [if_pos h63]
       exact xR (j + 1, t1) ⟨by dsimp only; omega, hs.symm, hd1, hd2⟩ (by dsimp only; omega) (hl := ⟨rfl, rfl, rfl, (congrArg some (by go_num)), trivial⟩)
      ·refine s6 ?_
       refine J_setK (b := b23) (S := t1.m.S) (by repeat constructor) ?_
       refine kJ [(7, _), (11, _), (12, _), (41, _), (42, _), (43, _)] ?_
       refine xDx [0, 1, 2, 3, 4, 5, 6, 7, 8, 9, 10, 11, 12, 13, 14, 15, 16] [3, 8] [0, 5] [cellB b7 [.pointer (some ⟨b28, 0, none⟩)] 107] ?_
       refine s11 ?_
       refine dW rfl (ow_entK (okE := fun _ => True) (m'' := (th :: t1.m.S).length) (WideMaps.string_law Und.h) KS LBool th Und.h rfl rfl rfl rfl rfl rfl (by intro s; repeat constructor) htk (by omega) (Nat.le_refl _)) (fun t75 _ => ?_)
       refine s1 ?_
       refine dW0 rfl (ow_entStore true rfl rfl rfl rfl rfl rfl trivial (by repeat constructor)) ?_
       refine dW rfl (ow_entK (okE := W64) (m'' := (th :: t1.m.S).length) (WideMaps.string_law Und.h) KS LI64 th Und.h rfl rfl rfl rfl rfl rfl (by intro s; repeat constructor) htk (by omega) (Nat.le_refl _)) (fun t77 _ => ?_)
       refine s1 ?_
       refine dW0 rfl (ow_entStore ((i : Nat) : Int) rfl rfl rfl rfl rfl rfl (show W64 ((i : Nat) : Int) by unfold W64; omega) (by repeat constructor)) ?_
       refine s2 ?_
       refine J_kSet (b := b23) (S := t1.m.S) (x := th) (by repeat constructor) ?_
       refine kJ [(7, _), (11, _), (41, _), (42, _), (43, _)] ?_
       refine xDx [0, 1, 2, 3, 4, 5, 6, 7, 8, 9, 10] [4] [0, 1] [cellB b7 [.pointer (some ⟨b28, 0, none⟩)] 107] ?_
       refine s6 ?_
       refine dW rfl (ow_sliceC (vs := [_]) (ty := 3) rfl rfl (by rfl) rfl rfl (fun _ => by kernel_rfl)) (fun b85 hb85 => ?_)
       refine dS rfl (oApp (sl := 34) EI (((i : Nat) : Int))) (fun A86 c86 => ?_)
       refine s6 ?_
       refine kJ [(7, _), (41, _), (42, _), (43, _)] ?_
       refine s4 ?_
       have hs : mkL Bk t.m ((firL Bk lv ((k : Nat) : Int) ed t.m.S Bk.length).take (j + 1)) = ⟨th :: t1.m.S, upd t1.m.R th ((i : Nat) : Int), t1.m.O ++ [((i : Nat) : Int)]⟩ := by rw [mkL_s Bk t.m _ j hjl, ← hm1, hi]; unfold mkC; rw [hci]; dsimp only; rw [if_neg h63]
       exact xR (j + 1, ⟨⟨th :: t1.m.S, upd t1.m.R th ((i : Nat) : Int), t1.m.O ++ [((i : Nat) : Int)]⟩, A86, c86⟩) ⟨by dsimp only; omega, hs.symm, by dsimp only [List.length_cons]; have := muS_lt (S := t1.m.S) (S' := th :: t1.m.S) (fun x hx => List.mem_cons_of_mem _ hx) hcm h63 List.mem_cons_self; omega, by dsimp only; rw [List.length_append, List.length_cons]; simp; exact hd2⟩ (by dsimp only; omega) (hl := ⟨rfl, rfl, rfl, (congrArg some (by go_num)), trivial⟩)
     ·refine s9 ?_
      obtain rfl : j = yl.length := by omega
      have hl : yl.length = (firL Bk lv ((k : Nat) : Int) ed t.m.S Bk.length).length := by rw [hy1]; exact ints_len _
      rw [hl, List.take_length] at hm1
      obtain ⟨f, hf1, hf2⟩ := hfu
      obtain ⟨f, rfl⟩ : ∃ i, f = i + 1 := ⟨f - 1, by omega⟩
      have hne : (firL Bk lv ((k : Nat) : Int) ed t.m.S Bk.length) ≠ [] := fun h => hy2 (by rw [hy1, h]; rfl)
      have hdec := mkL_dec hne
      refine xE t1 ⟨hm1, ⟨f, ?_, by rw [hm1]; omega⟩, hd1, hd2⟩
      rw [hf1, hm1]; show (if _ then _ else _) = _; rw [if_neg hne]
    ·rintro D t ⟨hfu, hc3, hc4⟩ hfin
     refine s7 ?_
     refine JQ_round (B := fun q : Nat × RS × List Nat => ⟨w, fun _ => False, none, q.2.2.map mark⟩) (k + 1, t, D :: Ds) ⟨by dsimp only; omega, ?_, hc3, hc4⟩ (by dsimp only; omega) (by exact cov) (by repeat constructor)
     dsimp only
     rw [madF_s]
     obtain ⟨j, hj1, hj2⟩ := hfu
     obtain ⟨j, rfl⟩ : ∃ i, j = i + 1 := ⟨j - 1, by omega⟩
     rw [hj1]
     unfold rndF
     rw [if_pos hfin]
   ·refine s10 ?_
    refine kJ [(7, _)] ?_
    refine s6 ?_
    refine JR_marks (fun X => [recB b28 bp b23 b25 b26 ed t0, setB Tryz.prog 9 kS okS b23 t0.m.S, mapK Tryz.prog 9 3 kS okS dI b26 (t0.m.S.length) t0.m.R, ownB 3 1 t0.A t0.m.O.length t0.c (t0.m.O.flatMap eI), cellB b7 [.pointer (some ⟨b28, 0, none⟩)] 107, setB Tryz.prog 9 kS okS b25 fl0.reverse, X]) rfl (fun _ => rr_tmp rfl) ?_
    intro w' hw
    obtain rfl : k = tp + 1 := by omega
    unfold RetMd
    rw [if_pos (by unfold askB8; rw [decide_eq_true h14, h17]; rfl)]
    exact ⟨⟨b28, b23, b25, b26, t0⟩, ⟨hm0, by have := hc1; dsimp only; omega, hc2⟩, rfl, (hw.un (r' := none) (d' := [])).pick (by unfold MdG; repeat constructor)⟩
  ·refine s1 ?_
   refine aPan (ecF rfl rfl) (fun w hw => need_no _ _ w) ?_
   refine s1 ?_
   refine JR_panicM ?_
   intro w' hw
   unfold RetMd
   rw [if_neg (by unfold askB8; rw [h17, Bool.and_false]; simp)]
   exact ⟨rfl, hw.bel⟩
 ·refine s4 ?_
  refine aPan (ecF rfl rfl) (fun w hw => need_no _ _ w) ?_
  refine s1 ?_
  refine JR_panicM ?_
  intro w' hw
  unfold RetMd
  rw [if_neg (by unfold askB8; rw [decide_eq_false h14]; simp)]
  exact ⟨rfl, hw.bel⟩
end Go.Proofs.YtmcpnoailbmkkaaGreatDoor
/- The sorted keys of a set: facts. -/
namespace Go.Proofs
open Go.RowKit Go.Maps Go.Sort Go.Shelf
def Tryz.keysA_ren : Go.Shelf.Ren := ⟨fun | 7 => 93 | 10 => 140 | n => n, fun | 23 => 117 | 26 => 9 | 3 => 4 | 28 => 197 | 0 => 0 | 27 => 196 | 33 => 115 | 4 => 4 | n => n, fun | n => n⟩
theorem Tryz.keysA : Go.Proofs.SlLaysZ.n7 Tryz.prog Tryz.keysA_ren := {
  mixed := by kernel_rfl
  f7 := ⟨Tryz.f93.name, by decide, Tryz.func93.trans (congrArg some (by kernel_rfl))⟩
  f10 := ⟨Tryz.f140.name, by decide, Tryz.func140.trans (congrArg some (by kernel_rfl))⟩
  t0 := Tryz.underlying0
  a0 := Tryz.isAgg0
  z0 := Tryz.sizeOf0
  v0 := Tryz.zeroValue0
  t4 := Tryz.underlying4
  a4 := Tryz.isAgg4
  z4 := Tryz.sizeOf4
  v4 := Tryz.zeroValue4
  t23 := Tryz.underlying117
  a23 := Tryz.isAgg117
  z23 := Tryz.sizeOf117
  v23 := Tryz.zeroValue117
  t26 := Tryz.underlying9
  a26 := Tryz.isAgg9
  z26 := Tryz.sizeOf9
  v26 := Tryz.zeroValue9
  t27 := Tryz.underlying196
  a27 := Tryz.isAgg196
  z27 := Tryz.sizeOf196
  v27 := Tryz.zeroValue196
  t28 := Tryz.underlying197
  a28 := Tryz.isAgg197
  z28 := Tryz.sizeOf197
  v28 := Tryz.zeroValue197
  t33 := Tryz.underlying115
  a33 := Tryz.isAgg115
  z33 := Tryz.sizeOf115
  v33 := Tryz.zeroValue115 }
def Tryz.sortedA_ren : Go.Shelf.Ren := ⟨fun | 6 => 92 | 8 => 138 | 9 => 139 | 11 => 179 | 13 => 173 | 12 => 180 | 23 => 208 | 24 => 186 | 14 => 211 | 15 => 212 | 16 => 213 | 17 => 214 | 18 => 215 | 19 => 216 | 20 => 217 | 21 => 218 | 22 => 219 | 25 => 243 | 26 => 239 | 27 => 240 | 28 => 244 | 29 => 245 | 30 => 246 | 31 => 279 | n => n, fun | 26 => 9 | 28 => 197 | 24 => 47 | 0 => 0 | 3 => 3 | 37 => 275 | 48 => 287 | 50 => 255 | 4 => 4 | 40 => 306 | 39 => 305 | 45 => 203 | 5 => 5 | 9 => 9 | 51 => 337 | 55 => 341 | 57 => 371 | 58 => 182 | 33 => 115 | n => n, fun | n => n⟩
theorem Tryz.sortedA : Go.Proofs.SlLaysZ.n6 Tryz.prog Tryz.sortedA_ren := {
  mixed := by kernel_rfl
  f6 := ⟨Tryz.f92.name, by decide, Tryz.func92.trans (congrArg some (by kernel_rfl))⟩
  f8 := ⟨Tryz.f138.name, by decide, Tryz.func138.trans (congrArg some (by kernel_rfl))⟩
  f11 := ⟨Tryz.f179.name, by decide, Tryz.func179.trans (congrArg some (by kernel_rfl))⟩
  t0 := Tryz.underlying0
  a0 := Tryz.isAgg0
  z0 := Tryz.sizeOf0
  v0 := Tryz.zeroValue0
  t24 := Tryz.underlying47
  a24 := Tryz.isAgg47
  z24 := Tryz.sizeOf47
  v24 := Tryz.zeroValue47
  t26 := Tryz.underlying9
  a26 := Tryz.isAgg9
  z26 := Tryz.sizeOf9
  v26 := Tryz.zeroValue9
  t28 := Tryz.underlying197
  a28 := Tryz.isAgg197
  z28 := Tryz.sizeOf197
  v28 := Tryz.zeroValue197
  i26 := by kernel_rfl }
def Tryz.sortA_ren : Go.Shelf.Ren := ⟨fun | 6 => 139 | 8 => 173 | 9 => 180 | 19 => 208 | 20 => 186 | 21 => 211 | 22 => 212 | 23 => 213 | 24 => 214 | 25 => 215 | 26 => 216 | 27 => 217 | 28 => 218 | 29 => 219 | 36 => 243 | 31 => 239 | 32 => 240 | 37 => 244 | 38 => 245 | 39 => 246 | 41 => 279 | n => n, fun | 27 => 47 | 29 => 9 | 3 => 3 | 32 => 275 | 26 => 47 | 0 => 0 | 44 => 287 | 46 => 255 | 4 => 4 | 36 => 306 | 35 => 305 | 41 => 203 | 5 => 5 | 9 => 9 | 53 => 337 | 57 => 341 | 63 => 371 | 64 => 182 | n => n, fun | n => n⟩
theorem Tryz.sortA : Go.Proofs.SlLaysM.n6 Tryz.prog Tryz.sortA_ren := {
  mixed := by kernel_rfl
  f6 := ⟨Tryz.f139.name, by decide, Tryz.func139.trans (congrArg some (by kernel_rfl))⟩
  f8 := Tryz.func173.trans (congrArg some (by kernel_rfl))
  f9 := ⟨Tryz.f180.name, by decide, Tryz.func180.trans (congrArg some (by kernel_rfl))⟩
  f19 := Tryz.func208.trans (congrArg some (by kernel_rfl))
  f20 := Tryz.func186.trans (congrArg some (by kernel_rfl))
  f21 := ⟨Tryz.f211.name, by decide, Tryz.func211.trans (congrArg some (by kernel_rfl))⟩
  f22 := ⟨Tryz.f212.name, by decide, Tryz.func212.trans (congrArg some (by kernel_rfl))⟩
  f23 := ⟨Tryz.f213.name, by decide, Tryz.func213.trans (congrArg some (by kernel_rfl))⟩
  f24 := ⟨Tryz.f214.name, by decide, Tryz.func214.trans (congrArg some (by kernel_rfl))⟩
  f25 := ⟨Tryz.f215.name, by decide, Tryz.func215.trans (congrArg some (by kernel_rfl))⟩
  f26 := ⟨Tryz.f216.name, by decide, Tryz.func216.trans (congrArg some (by kernel_rfl))⟩
  f27 := ⟨Tryz.f217.name, by decide, Tryz.func217.trans (congrArg some (by kernel_rfl))⟩
  f28 := ⟨Tryz.f218.name, by decide, Tryz.func218.trans (congrArg some (by kernel_rfl))⟩
  f29 := ⟨Tryz.f219.name, by decide, Tryz.func219.trans (congrArg some (by kernel_rfl))⟩
  f31 := Tryz.func239.trans (congrArg some (by kernel_rfl))
  f32 := Tryz.func240.trans (congrArg some (by kernel_rfl))
  f36 := ⟨Tryz.f243.name, by decide, Tryz.func243.trans (congrArg some (by kernel_rfl))⟩
  f37 := ⟨Tryz.f244.name, by decide, Tryz.func244.trans (congrArg some (by kernel_rfl))⟩
  f38 := ⟨Tryz.f245.name, by decide, Tryz.func245.trans (congrArg some (by kernel_rfl))⟩
  f39 := ⟨Tryz.f246.name, by decide, Tryz.func246.trans (congrArg some (by kernel_rfl))⟩
  f41 := ⟨Tryz.f279.name, by decide, Tryz.func279.trans (congrArg some (by kernel_rfl))⟩
  t0 := Tryz.underlying0
  a0 := Tryz.isAgg0
  z0 := Tryz.sizeOf0
  v0 := Tryz.zeroValue0
  t3 := Tryz.underlying3
  a3 := Tryz.isAgg3
  z3 := Tryz.sizeOf3
  v3 := Tryz.zeroValue3
  t4 := Tryz.underlying4
  a4 := Tryz.isAgg4
  z4 := Tryz.sizeOf4
  v4 := Tryz.zeroValue4
  t5 := Tryz.underlying5
  a5 := Tryz.isAgg5
  z5 := Tryz.sizeOf5
  v5 := Tryz.zeroValue5
  t9 := Tryz.underlying9
  a9 := Tryz.isAgg9
  z9 := Tryz.sizeOf9
  v9 := Tryz.zeroValue9
  t26 := Tryz.underlying47
  a26 := Tryz.isAgg47
  z26 := Tryz.sizeOf47
  v26 := Tryz.zeroValue47
  t27 := Tryz.underlying47
  a27 := Tryz.isAgg47
  z27 := Tryz.sizeOf47
  v27 := Tryz.zeroValue47
  t29 := Tryz.underlying9
  a29 := Tryz.isAgg9
  z29 := Tryz.sizeOf9
  v29 := Tryz.zeroValue9
  t32 := Tryz.underlying275
  a32 := Tryz.isAgg275
  z32 := Tryz.sizeOf275
  v32 := Tryz.zeroValue275
  t35 := Tryz.underlying305
  a35 := Tryz.isAgg305
  z35 := Tryz.sizeOf305
  v35 := Tryz.zeroValue305
  t36 := Tryz.underlying306
  a36 := Tryz.isAgg306
  z36 := Tryz.sizeOf306
  v36 := Tryz.zeroValue306
  t41 := Tryz.underlying203
  a41 := Tryz.isAgg203
  z41 := Tryz.sizeOf203
  v41 := Tryz.zeroValue203
  t44 := Tryz.underlying287
  a44 := Tryz.isAgg287
  z44 := Tryz.sizeOf287
  v44 := Tryz.zeroValue287
  t46 := Tryz.underlying255
  a46 := Tryz.isAgg255
  z46 := Tryz.sizeOf255
  v46 := Tryz.zeroValue255
  t53 := Tryz.underlying337
  a53 := Tryz.isAgg337
  z53 := Tryz.sizeOf337
  v53 := Tryz.zeroValue337
  t57 := Tryz.underlying341
  a57 := Tryz.isAgg341
  z57 := Tryz.sizeOf341
  v57 := Tryz.zeroValue341
  t63 := Tryz.underlying371
  a63 := Tryz.isAgg371
  z63 := Tryz.sizeOf371
  v63 := Tryz.zeroValue371
  t64 := Tryz.underlying182
  a64 := Tryz.isAgg182
  z64 := Tryz.sizeOf182
  v64 := Tryz.zeroValue182 }
theorem Tryz.sortsA (m : Nat) : AnyZ.SortsIn Tryz.prog Tryz.sortedA_ren Fence.wide m :=
 ⟨fun blk off cap ss W hH hblk hsz => callsIn_wide.2 (AnyM.slices_Sort_string Tryz.sortA blk off cap ss W hH hblk hsz), fun p cap W => callsIn_wide.2 (AnyM.slices_Sort_string_none Tryz.sortA p cap W)⟩
theorem Tryz.keysIn (mb : Option Nat) (W : World) : CallsIn Fence.wide 5 Tryz.prog 93 #[.map mb] W fun e w' => e = .returned (.func (.func 140) #[] #[.pointer (some ⟨W.heap.size, 0, none⟩)]) ∧ w' = W.alloc (.cells #[.map mb] 117) := AnyZ.keys_in Tryz.keysA Fence.wide 5 trivial rfl mb W
theorem Tryz.sortedIn {H : Type} (t b nn : Nat) (D0 : DataW H) (R : Value → Option (DataW H × List MemPlace)) (w : World) (hown : w.ownsMap Tryz.prog 9 R b nn D0) (hmax : Maps.size D0 ≤ maxLen) (hbytes : Maps.size D0 * 16 ≤ 140737488355328) (ht : t < w.heap.size) (hc : w.cell? ⟨t, 0, none⟩ = some (.map (some b))) :
  CallsIn Fence.wide 5 Tryz.prog 92 #[.func (.func 140) #[] #[.pointer (some ⟨t, 0, none⟩)]] w fun e w' => ∃ v ss, e = .returned v ∧ ss.Perm (strKeys D0) ∧ w'.ownsRow w.heap.size 9 1 v ss.length ((ss.mergeSort (fun x y => decide (x ≤ y))).map encStr) ∧ (v = .slice none 0 0 ↔ ss = []) ∧ RowKit.Below w.heap.size w w' := by
 have hseq : SeqGives Fence.wide 2 Tryz.prog 140 #[.pointer (some ⟨t, 0, none⟩)] encStr (fun ss => ss.Perm (strKeys D0)) (Maps.size D0) w :=
  AnyZ.keys_gives (ρ := Tryz.keysA_ren) { Tryz.keysA with } Fence.wide _ trivial rfl (by omega) t b nn D0 _ ht hc hown
 have cS := AnyZ.sorted_in Tryz.sortedA Fence.wide 5 trivial trivial trivial trivial rfl (by omega) (Tryz.sortsA _) (enters_of Tryz.func139 (by kernel_rfl) rfl) 140 #[.pointer (some ⟨t, 0, none⟩)] trivial (enters_of Tryz.func140 (by kernel_rfl) rfl) _ _ hmax hbytes _ hseq
 exact cS
end Go.Proofs
namespace Go.Proofs.YtmcpnoailbmkkaaGreatDoor
open Go Go.RowKit Go.Proofs Go.Maps Go.Sort
attribute [local irreducible] J JQ JL JA JD
/-- A list that has no string twice. -/
def dd : List ByteArray → List ByteArray
 | [] => []
 | x :: l => if x ∈ l then dd l else x :: dd l
theorem dd_mem (x : ByteArray) : ∀ l : List ByteArray, x ∈ dd l ↔ x ∈ l
 | [] => Iff.rfl
 | y :: l => by
  unfold dd; split
  ·rename_i h; rw [dd_mem x l, List.mem_cons]; exact ⟨.inr, fun h' => h'.elim (fun e => e ▸ h) id⟩
  ·rw [List.mem_cons, List.mem_cons, dd_mem x l]
theorem dd_nodup : ∀ l : List ByteArray, (dd l).Nodup
 | [] => List.nodup_nil
 | y :: l => by
  unfold dd; split
  ·exact dd_nodup l
  ·rename_i h; exact List.nodup_cons.2 ⟨fun h' => h ((dd_mem y l).1 h'), dd_nodup l⟩
theorem dd_len : ∀ l : List ByteArray, (dd l).length ≤ l.length
 | [] => Nat.le_refl _
 | y :: l => by
  have := dd_len l
  unfold dd; split <;> simp only [List.length_cons] <;> omega
abbrev bl (x : ByteArray) : List UInt8 := x.data.toList
abbrev bs8 (x : List UInt8) : ByteArray := ⟨x.toArray⟩
theorem bl_inj {x y : ByteArray} (h : bl x = bl y) : x = y := by
 cases x with | mk a => cases y with | mk b => simp [bl] at h; rw [h]
/-- Strings that strictly rise and are those of a list. -/
structure SoP (S : List ByteArray) (L : List ByteArray) : Prop where
 up : L.Pairwise (fun x y => ltS x y = true)
 mem : ∀ x, x ∈ L ↔ x ∈ S
 len : L.length ≤ S.length
theorem ltS_lt (x y : List UInt8) : ltS (bs8 x) (bs8 y) = decide (x < y) := by
 unfold ltS; have h := bytesLess_eq x y; simpa [bs8] using h
theorem sort_so {S : List ByteArray} {ss : List (List UInt8)} (h : ss.Perm ((dd S).map bl)) : SoP S ((ss.mergeSort (fun x y => decide (x ≤ y))).map bs8) := by
 have hm : ∀ y : List UInt8, y ∈ ss.mergeSort (fun x y => decide (x ≤ y)) ↔ bs8 y ∈ S := fun y => by
  rw [(List.mergeSort_perm ss _).mem_iff, h.mem_iff, List.mem_map]
  constructor
  ·rintro ⟨z, hz, rfl⟩; exact (dd_mem _ _).1 hz
  ·intro hy; exact ⟨_, (dd_mem _ _).2 hy, by simp [bl]⟩
 have hnd : (ss.mergeSort (fun x y => decide (x ≤ y))).Nodup := ((List.mergeSort_perm ss _).trans h).nodup_iff.2 (List.pairwise_map.2 ((dd_nodup S).imp (fun hne e => hne (bl_inj e))))
 have hso := List.pairwise_mergeSort (le := fun x y : List UInt8 => decide (x ≤ y)) (fun a b c h1 h2 => by simp only [decide_eq_true_eq] at *; exact List.le_trans h1 h2) (fun a b => by simp only [Bool.or_eq_true, decide_eq_true_eq]; exact List.le_total a b) ss
 refine ⟨List.pairwise_map.2 ((hso.and hnd).imp (fun {x y} hxy => ?_)), fun x => ?_, ?_⟩
 ·obtain ⟨h1, h2⟩ := hxy
  rw [ltS_lt, decide_eq_true_eq]
  simp only [decide_eq_true_eq] at h1
  rcases List.le_iff_lt_or_eq.1 h1 with h | h
  ·exact h
  ·exact absurd h h2
 ·rw [List.mem_map]
  constructor
  ·rintro ⟨y, hy, rfl⟩; exact (hm y).1 hy
  ·intro hx; exact ⟨bl x, (hm _).2 hx, rfl⟩
 ·rw [List.length_map, ((List.mergeSort_perm ss _).trans h).length_eq, List.length_map]; exact dd_len S
theorem enc_bs (l : List (List UInt8)) : l.map encStr = (l.map bs8).flatMap eS := by
 induction l with
 | nil => rfl
 | cons a l ih => rw [List.map_cons, ih, List.map_cons, List.flatMap_cons]; rfl
structure SoT where
 L : List ByteArray
 A : Option Addr
 c : Nat
theorem Keys78 (b : Nat) (w : World) : Calls Tryz.prog 93 #[.map (some b)] w (Ret w (fun _ : Nat => True) (fun t => .func (.func 140) #[] #[.pointer (some ⟨t, 0, none⟩)]) (fun t => [cellB t [.map (some b)] 117])) := by
 refine (callsIn_wide.1 (Tryz.keysIn (some b) w)).mono ?_
 rintro e w' ⟨rfl, rfl⟩
 exact ⟨w.heap.size, trivial, rfl, (Wd.start (bs w)).new ((Below.refl _ _).alloc (Nat.le_refl _) _) (World.alloc_heap_new w _) (fun k hk => by obtain rfl : k = w.heap.size := hk; exact ⟨Nat.le_refl _, by simp⟩)⟩
theorem Sorted77 (S : List ByteArray) (t b : Nat) (w : World) (hc : (cellB t [.map (some b)] 117).holds w) (hS : (setB Tryz.prog 9 kS okS b S).holds w) (hok : ∀ s ∈ S, okS s) (hn : S.length ≤ 1000) : Calls Tryz.prog 92 #[.func (.func 140) #[] #[.pointer (some ⟨t, 0, none⟩)]] w (Ret w (fun t : SoT => SoP S t.L) (fun t => .slice t.A t.L.length t.c) (fun t => [ownB 9 1 t.A t.L.length t.c (t.L.flatMap eS)])) := by
 obtain ⟨nn, c, hcn, D, hown, hsz, hD⟩ := hS
 have ht : t < w.heap.size := (Array.getElem?_eq_some_iff.1 (show w.heap[t]? = _ from hc)).1
 have hperm : (strKeys D).Perm ((dd S).map bl) := by
  obtain ⟨es, hDe, hpw, _⟩ := hown.entries (Maps.string_keyed Und.h)
  obtain ⟨es', hD', hko⟩ := hown.keysOf
  obtain rfl : es = es' := by rw [hDe] at hD'; simpa using hD'
  have hstr : ∀ p ∈ es, ∃ x, p.1 = .string x ∧ x.length ≤ maxLen := fun p hp => by obtain ⟨v, hv⟩ := hko p hp; obtain ⟨x, _, hx, hl⟩ := Maps.keyOf_str (Und.h (P := Tryz.prog) (t := 9) (u := .string)) hv; exact ⟨x, hx, hl⟩
  have hhas : ∀ x : List UInt8, x.length ≤ maxLen → Maps.has D (.string x) = decide (bs8 x ∈ S) := fun x hx => by
   have h1 := (hD (bs8 x) (.string x) (by unfold okS ByteArray.size; simpa using hx) (by simp [keyOf, kS, Und.h (P := Tryz.prog) (t := 9) (u := .string), mapKey]; exact hx)).1
   rw [h1]; unfold setG; by_cases h : bs8 x ∈ S <;> simp [h]
  rw [hDe]
  refine (perm_strKeys hpw (fun p hp => by obtain ⟨x, hx, -⟩ := hstr p hp; exact ⟨x, hx⟩) (List.pairwise_map.2 ((dd_nodup S).imp (fun hne e => hne (bl_inj e)))) (fun x => ?_)).symm
  rw [← hDe, List.mem_map]
  constructor
  ·rintro ⟨s, hs, rfl⟩
   have hs' := (dd_mem _ _).1 hs
   rw [hhas _ (by have := hok s hs'; unfold okS at this; rw [ba_len]; exact this)]
   exact decide_eq_true hs'
  ·intro hx
   have hl : x.length ≤ maxLen := by
    rw [hDe, has_eq, List.any_eq_true] at hx
    obtain ⟨p, hp, hs⟩ := hx
    obtain ⟨y, hy, hl⟩ := hstr p hp
    rw [hy] at hs
    have : y = x := by simpa [Lit.sameKey] using hs
    rw [← this]; exact hl
   rw [hhas x hl] at hx
   exact ⟨bs8 x, (dd_mem _ _).2 (of_decide_eq_true hx), by simp [bl]⟩
 have hlen : Maps.size D ≤ 1000 := by
  have h1 : Maps.size D = (strKeys D).length := by
   obtain ⟨es, rfl, -⟩ := hown.keysOf
   exact (List.length_map _).symm
  rw [h1, hperm.length_eq, List.length_map]; have := dd_len S; omega
 refine (callsIn_wide.1 (Tryz.sortedIn t b nn D _ w hown (by unfold maxLen; omega) (by omega) ht (cellB_get hc rfl))).mono ?_
 rintro e w' ⟨v, ss, rfl, hp, hrow, -, hb⟩
 have hso := sort_so (hp.trans hperm)
 rw [enc_bs] at hrow
 have hl : ss.length = ((ss.mergeSort (fun x y => decide (x ≤ y))).map bs8).length := by rw [List.length_map, (List.mergeSort_perm ss _).length_eq]
 rw [hl] at hrow
 obtain ⟨A, cc, rfl, -, hblk⟩ := row_form hrow
 refine ⟨⟨_, A, cc⟩, hso, rfl, (Wd.start (bs w)).new hb (own_base hrow (fun _ _ => Nat.zero_le _)) (fun k hk => ?_)⟩
 exact ⟨(row_ge hrow hk).1, by obtain ⟨o, ho, -⟩ := (row_ge hrow hk).2; exact (Array.getElem?_eq_some_iff.1 ho).1⟩

set_option maxRecDepth 100000 in
set_option maxHeartbeats 4000000 in
theorem facts55 (S : List ByteArray) (wp bp hb gb rb : Nat) (ed : Int) (t : RS) (w : World) (hrec : (recB wp bp hb gb rb ed t).holds w) (hS : (setB Tryz.prog 9 kS okS hb S).holds w) (hok : ∀ s ∈ S, okS s) (hn : S.length ≤ 1000) : Calls Tryz.prog 40 #[.pointer (some ⟨wp, 0, none⟩)] w (Ret w (fun t : SoT => SoP S t.L) (fun t => .slice t.A t.L.length t.c) (fun t => [ownB 9 1 t.A t.L.length t.c (t.L.flatMap eS)])) := by
 refine J_enter (fun _ => False) (vs := [.pointer (some ⟨wp, 0, none⟩)]) (k := 8) (l := [(0, .pointer (some ⟨wp, 0, none⟩))]) Tryz.func40 rfl rfl Tryz.ntmps40 rfl rfl (Wd.start _) ?_
 refine s10 ?_
 refine aV (vOld rfl rfl (fun h => h) (cellB_get hrec rfl)) ?_
 refine aW (oR (fun w hw => Keys78 hb w)) (fun t7 _ => ?_)
 refine aW (oR (fun w hw => Sorted77 S t7 hb w (hw.ok (cellB t7 [.map (some hb)] 117) (by repeat constructor)).1 (setB_up hS hw.bel) hok hn)) (fun t8 ht8 => ?_)
 refine s4 ?_
 refine JR_one rfl (rr_tmp rfl) ?_
 intro w' hw
 exact ⟨t8, ht8, rfl, hw.pick (by repeat constructor)⟩
end Go.Proofs.YtmcpnoailbmkkaaGreatDoor
/- answered: what a question comes to, with its refusal caught. -/
namespace Go.Proofs.YtmcpnoailbmkkaaGreatDoor
open Go Go.RowKit Go.Proofs
attribute [local irreducible] J JQ JL JA JD

theorem ta69 (v : Value) (w : World) : (Instr.typeAssert (.iface 185 v) 20 185 true).run Tryz.prog w = .ok (.tuple #[v, .bool true]) w := by kernel_rfl
theorem neq69 (v : Value) (w : World) : (binOp .neq 20 (.iface 185 v) .nilIface).run Tryz.prog w = .ok (.bool true) w := by kernel_rfl
theorem neq69n (w : World) : (binOp .neq 20 .nilIface .nilIface).run Tryz.prog w = .ok (.bool false) w := by kernel_rfl
theorem rp_neqI {P : Program} {n : Nat} {l : Sl} {o : Oper} {k : Nat} {t ty : TypeId} {u : Value} {r : Bool} (ho : o.op = .binOp .neq t (.tmp k) (.const .nilIface) ty) (hx : evl l (.tmp k) = some u) (h : ∀ w, (binOp .neq t u .nilIface).run P w = .ok (.bool r) w) (hu : u = .nilIface ∨ ∃ t v, u = .iface t v) : RP P n l o (.bool r) := fun a w ha => by
 have e := ha.ev hx
 have e2 : a.eval (.const .nilIface) = .nilIface := rfl
 unfold execOp; rw [ho]
 generalize a.eval = ρ at *
 rcases hu with rfl | ⟨t, v, rfl⟩ <;> simp only [e, e2, eqGuard] <;> simp [h]
abbrev act69 (bA bE : Nat) (v : Value) : Act := (Act.put { tmps := [Value.pointer (some ⟨bA, 0, none⟩), .pointer (some ⟨bE, 0, none⟩)].toArray ++ Array.replicate 18 undef, defers := [] } (some 5) v).put (some 2) v
theorem fr69 (bA bE : Nat) (v : Value) : Fr 20 [(0, .pointer (some ⟨bA, 0, none⟩)), (1, .pointer (some ⟨bE, 0, none⟩)), (2, v)] (act69 bA bE v) :=
 (((Fr.start [Value.pointer (some ⟨bA, 0, none⟩), .pointer (some ⟨bE, 0, none⟩)] 18).put 5 v rfl).put 2 v rfl).weak (by exact cov)
set_option maxRecDepth 100000 in
set_option maxHeartbeats 4000000 in
theorem catch69 (bA bE : Nat) (at_ e_ : Int) (x y : Value) (w0 : World) (m : Nat → Prop) (X : It) (w : World) (hw : Wd ⟨w0, m, none, []⟩ [cellB bA [x] 3, cellB bE [y] 31, X] w) : CallsD Tryz.prog 86 #[.pointer (some ⟨bA, 0, none⟩), .pointer (some ⟨bE, 0, none⟩)] (.panicking (Mis at_ e_)) w (fun r u' w' => r = .returned (.tuple #[]) ∧ u' = .panicking [{ v := .iface 185 (.agg #[.int .i64 at_, .int .i64 e_]), recovered := true }] ∧ Wd ⟨w0, m, none, []⟩ [cellB bA [.int .i64 at_] 3, cellB bE [.int .i64 e_] 31, X] w') := by
 refine callsD_of_wpS Tryz.func86 rfl fun c₀ cs hu => ?_
 refine wpS_seq_k (K := fun a cs' w' => a = act69 bA bE (.iface 185 (.agg #[.int .i64 at_, .int .i64 e_])) ∧ cs' = { c₀ with mode := .panicking [{ v := .iface 185 (.agg #[.int .i64 at_, .int .i64 e_]), recovered := true }] } :: cs ∧ w' = w) ?_ ?_
 ·apply wpS_region
  simp [wpOpsS, go_sem, recoverD, hu, Tryz.ntmps86, Exit.thenS, act69, Act.put]
 rintro a cs' w1 ⟨rfl, rfl, rfl⟩
 refine wpS_of_wp ?_
 refine J.wp0 (n := 20) (B := ⟨w0, m, none, []⟩) (H := [cellB bA [x] 3, cellB bE [y] 31, X]) (l := [(0, _), (1, _), (2, _)]) ?_ (fr69 bA bE _) hw
 refine s3 ?_
 refine aP (rp_neqI rfl rfl (neq69 _) (.inr ⟨_, _, rfl⟩)) ?_
 refine s6 ?_
 refine aP (rp_run1 (f := fun u => Instr.typeAssert u 20 185 true) (v := .tuple #[(.agg #[.int .i64 at_, .int .i64 e_]), .bool true]) (fun _ => rfl) rfl (fun w => ta69 _ w)) ?_
 refine s3 ?_
 refine aW oA (fun b3 hb3 => ?_)
 refine s6 ?_
 refine kJ [(0, _), (1, _), (2, _), (3, _), (4, _)] ?_
 refine s8 ?_
 refine kJ [(0, _), (1, _), (3, _)] ?_
 refine xDx [0, 1, 2, 3, 4, 5] [] [1, 3] [cellB b3 [.int .i64 at_, .int .i64 e_] 185] ?_
 refine s7 ?_
 refine JQ_of (fun a w2 ha hw2 => ⟨rfl, _, rfl, _, results_none rfl _ _ _, rfl, rfl, hw2.pick (by repeat constructor)⟩)
set_option maxRecDepth 100000 in
set_option maxHeartbeats 4000000 in
theorem idle69 (bA bE : Nat) (w0 : World) (m : Nat → Prop) (H : List It) (w : World) (hw : Wd ⟨w0, m, none, []⟩ H w) : CallsD Tryz.prog 86 #[.pointer (some ⟨bA, 0, none⟩), .pointer (some ⟨bE, 0, none⟩)] .returning w (fun r u' w' => r = .returned (.tuple #[]) ∧ u' = .returning ∧ Wd ⟨w0, m, none, []⟩ H w') := by
 refine callsD_of_wpS Tryz.func86 rfl fun c₀ cs hu => ?_
 refine wpS_seq_k (K := fun a cs' w' => a = act69 bA bE (.nilIface) ∧ cs' = c₀ :: cs ∧ w' = w) ?_ ?_
 ·apply wpS_region
  simp [wpOpsS, go_sem, recoverD, hu, Tryz.ntmps86, Exit.thenS, act69, Act.put]
 rintro a cs' w1 ⟨rfl, rfl, rfl⟩
 refine wpS_of_wp ?_
 refine J.wp0 (n := 20) (B := ⟨w0, m, none, []⟩) (H := H) (l := [(0, _), (1, _), (2, _)]) ?_ (fr69 bA bE _) hw
 refine s3 ?_
 refine aP (rp_neqI rfl rfl neq69n (.inl rfl)) ?_
 refine s4 ?_
 refine JQ_of (fun a w2 ha hw2 => ⟨rfl, .returning, by cases c₀; simp_all, _, results_none rfl _ _ _, rfl, rfl, hw2⟩)
set_option maxRecDepth 100000 in
set_option maxHeartbeats 4000000 in
theorem answered_yes {T : Type} (f : FuncId) (caps : Array Value) [Cf Tryz.prog f] (A : It) (φ : T → Prop) (C : T → It) (w : World) (hA : A.holds w) (hAf : ∀ b, A.foot b → b < w.heap.size) (hAr : A.ro = false) (hCr : ∀ t, (C t).ro = false) (h : ∀ W, Wd ⟨w, A.foot, none, []⟩ [A] W → Calls Tryz.prog f (#[] ++ #[] ++ caps) W (RetM A φ (fun _ => .tuple #[]) C W)) : Calls Tryz.prog 36 #[.func (.func f) #[] caps] w (RetM A φ (fun _ => .tuple #[.int .i64 (-1), .int .i64 0]) C w) := by
 refine J_startD (B := ⟨w, A.foot, none, []⟩) rfl rfl (vs := [.func (.func f) #[] caps]) (k := 6) (l := [(0, .func (.func f) #[] caps)]) Tryz.func36 rfl rfl Tryz.ntmps36 rfl rfl (Wd.startM hA hAf) ?_
 refine s2 ?_
 refine aW oA (fun b2 hb2 => ?_)
 refine aW oA (fun b3 hb3 => ?_)
 refine s5 ?_
 refine aDefer ?_
 refine s5 ?_
 refine aW (ow_callM (A := A) (C := C) (ec_val (f := f) rfl rfl rfl Cf.h) rfl rfl hAr hCr (by intro t; repeat constructor) (fun W hW => h W ((hW.un (r' := none) (d' := [])).pick (by repeat constructor)))) (fun t6 ht6 => ?_)
 refine s3 ?_
 refine kJ [(2, _), (3, _)] ?_
 refine s6 ?_
 refine JQ_of (fun a w2 ha hw2 => ?_)
 have hw3 : Wd ⟨w, A.foot, none, []⟩ [cellB b2 [.int .i64 (-1)] 3, cellB b3 [.int .i64 0] 31, C t6] w2 := (hw2.un (r' := none) (d' := [])).pick (by repeat constructor)
 show Leaves _ _ a.tmps _ [later 86 #[.pointer (some ⟨b2, 0, none⟩), .pointer (some ⟨b3, 0, none⟩)]] .returning w2
 exact JR_leave (B := ⟨w, A.foot, none, []⟩) Cf.h (by simp) (fun w4 hw4 => (idle69 b2 b3 w A.foot _ w4 hw4).mono (fun e u w5 q => ⟨q.1, by rw [q.2.1]; rfl, q.2.2⟩)) rfl (rr_cell rfl Agg.h (by repeat constructor) (by rfl)) (rr_cell rfl Agg.h (by repeat constructor) (by rfl)) (fun w4 hw4 => ⟨t6, ht6, rfl, hw4.pick (by repeat constructor)⟩) ha hw3
/-- Nothing. -/
def noneI : It where
 foot _ := False
 holds _ := True
 st _ _ _ _ := trivial
set_option maxRecDepth 100000 in
set_option maxHeartbeats 4000000 in
theorem answered_no (f : FuncId) (caps : Array Value) [Cf Tryz.prog f] (at_ e_ : Int) (w : World) (h : ∀ W, Below w.heap.size w W → Calls Tryz.prog f (#[] ++ #[] ++ caps) W (Fails at_ e_ W)) : Calls Tryz.prog 36 #[.func (.func f) #[] caps] w (Back (.tuple #[.int .i64 at_, .int .i64 e_]) w) := by
 refine J_startD (B := bs w) rfl rfl (vs := [.func (.func f) #[] caps]) (k := 6) (l := [(0, .func (.func f) #[] caps)]) Tryz.func36 rfl rfl Tryz.ntmps36 rfl rfl (Wd.start (bs w)) ?_
 refine s2 ?_
 refine aW oA (fun b2 hb2 => ?_)
 refine aW oA (fun b3 hb3 => ?_)
 refine s5 ?_
 refine aDefer ?_
 refine s5 ?_
 refine aPan (ec_val rfl rfl rfl Cf.h) (fun w hw => h w (Wd.bel (hw.un (r' := none) (d' := [])))) ?_
 refine s1 ?_
 refine JQ_of (fun a w2 ha hw2 => ?_)
 have hw3 : Wd (bs w) [cellB b2 [.int .i64 0] 3, cellB b3 [.int .i64 0] 31, noneI] w2 := ((((hw2.un (r' := none) (d' := [])).new (A := noneI) (Below.refl _ _) trivial (fun _ h => h.elim))).pick (by repeat constructor))
 show Leaves _ _ a.tmps _ [later 86 #[.pointer (some ⟨b2, 0, none⟩), .pointer (some ⟨b3, 0, none⟩)]] (.panicking (Mis at_ e_)) w2
 exact JR_leave (B := bs w) Cf.h (by simp) (fun w4 hw4 => (catch69 b2 b3 at_ e_ _ _ w _ _ w4 hw4).mono (fun e u w5 q => ⟨q.1, by rw [q.2.1]; rfl, q.2.2⟩)) rfl (rr_cell rfl Agg.h (by repeat constructor) (by rfl)) (rr_cell rfl Agg.h (by repeat constructor) (by rfl)) (fun w4 hw4 => ⟨rfl, hw4.bel⟩) ha hw3
end Go.Proofs.YtmcpnoailbmkkaaGreatDoor
/- The program: Check, Level. -/
namespace Go.Proofs.YtmcpnoailbmkkaaGreatDoor
open Go Go.RowKit Go.Proofs
attribute [local irreducible] J JQ JL JA JD

/-- What is known of a book in memory. -/
structure BkW (w : World) (Bk : List Cl) (A : Option Addr) (c : Nat) : Prop where
 row : Arr 6 eC w (.slice A Bk.length c) Bk
 cl : ∀ x ∈ Bk, ClW w x
theorem BkW.up {w w' : World} {Bk : List Cl} {A : Option Addr} {c : Nat} (h : BkW w Bk A c) (hb : Below w.heap.size w w') : BkW w' Bk A c := ⟨h.row.up EC6 hb, fun x hx => (h.cl x hx).up hb⟩
theorem bound_no {Bk : List Cl} {A : Option Addr} {c : Nat} {w : World} {a n : Int} (h : BkW w Bk A c) (hb : bndF Bk = some (a, n)) : Calls Tryz.prog 38 #[.slice A Bk.length c] w (Fails a n w) := by
 have := bound39 Bk A c w h.row h.cl
 unfold RetBd at this; rw [hb] at this; exact this
theorem bound_yes {Bk : List Cl} {A : Option Addr} {c : Nat} {w : World} (h : BkW w Bk A c) (hb : bndF Bk = none) : Calls Tryz.prog 38 #[.slice A Bk.length c] w (Ret w (BdP Bk) (fun t => .pointer (some ⟨t.bp, 0, none⟩)) (BdG A Bk.length c)) := by
 have := bound39 Bk A c w h.row h.cl
 unfold RetBd at this; rw [hb] at this; exact this
theorem bnd_64 {Bk : List Cl} (hb : bndF Bk = none) : Bk.length ≤ 64 := by
 unfold bndF at hb; split at hb
 ·cases hb
 ·omega
theorem opt2 {α β : Type} (x : Option (α × β)) : x = none ∨ ∃ a b, x = some (a, b) := by
 cases x with
 | none => exact .inl rfl
 | some p => exact .inr ⟨p.1, p.2, rfl⟩
def lvOf (Bk : List Cl) : LM := (lvl Bk).getD (fun _ => none)
end Go.Proofs.YtmcpnoailbmkkaaGreatDoor
/- The program: Holds. -/
namespace Go.Proofs.YtmcpnoailbmkkaaGreatDoor
open Go Go.RowKit Go.Proofs
attribute [local irreducible] J JQ JL JA JD

theorem mkL_mem {Bk : List Cl} {p : ByteArray → Prop} (hp : ∀ c ∈ Bk, p c.th) : ∀ (l : List Nat) (m : MS), (∀ x ∈ m.S, p x) → ∀ x ∈ (mkL Bk m l).S, p x
 | [], _, h => h
 | i :: l, m, h => mkL_mem hp l (mkC Bk m i) (fun x hx => by
  unfold mkC at hx
  split at hx
  ·exact h x hx
  ·rename_i c hc
   split at hx
   ·exact h x hx
   ·rcases List.mem_cons.1 hx with rfl | hx
    ·exact hp c (List.mem_of_getElem? hc)
    ·exact h x hx)
theorem rndF_mem {Bk : List Cl} {lv : LM} {n ed : Int} {p : ByteArray → Prop} (hp : ∀ c ∈ Bk, p c.th) : ∀ (k : Nat) (m : MS), (∀ x ∈ m.S, p x) → ∀ x ∈ (rndF Bk lv n ed k m).S, p x
 | 0, _, h => h
 | k + 1, m, h => by
  unfold rndF; split
  ·exact h
  ·exact rndF_mem hp k _ (mkL_mem hp _ m h)
theorem madF_mem (Bk : List Cl) (lv : LM) (ed : Int) (m : MS) : ∀ k, ∀ x ∈ (madF Bk lv ed k m).S, x ∈ m.S ∨ ∃ c ∈ Bk, c.th = x
 | 0 => fun _ h => .inl h
 | k + 1 => by
  rw [madF_s]; unfold levF
  exact rndF_mem (p := fun x => x ∈ m.S ∨ ∃ c ∈ Bk, c.th = x) (fun c hc => .inr ⟨c, hc, rfl⟩) _ _ (madF_mem Bk lv ed m k)
theorem levF_id {Bk : List Cl} {lv : LM} {ed : Int} {m : MS} {n : Nat} (h : ∀ c ∈ Bk, gM lv c.th < (n : Nat)) : levF Bk lv ed m n = m := by
 have e : firL Bk lv n ed m.S Bk.length = [] := by
  rw [List.eq_nil_iff_forall_not_mem]
  intro i hi
  obtain ⟨-, c, hc, h1, -⟩ := firL_mem hi
  have := h c (List.mem_of_getElem? hc)
  omega
 unfold levF rndF; rw [if_pos e]
/-- Above the greatest level nothing comes. -/
theorem madF_top {Bk : List Cl} {lv : LM} {ed : Int} {m : MS} {a : Nat} (h : ∀ c ∈ Bk, gM lv c.th ≤ (a : Nat)) : ∀ b, a ≤ b → madF Bk lv ed (b + 1) m = madF Bk lv ed (a + 1) m := by
 intro b hab
 induction b with
 | zero => obtain rfl : a = 0 := by omega
           rfl
 | succ b ih =>
  by_cases e : a = b + 1
  ·rw [e]
  ·rw [madF_s, levF_id (fun c hc => by have := h c hc; omega)]
   exact ih (by omega)
/-- What holds by a book, in an edition, with some facts. -/
def hldM (Bk : List Cl) (ed : Int) (fl0 : List ByteArray) : MS := madF Bk (lvOf Bk) ed (Bk.length + 1) ⟨fl0.reverse, fun _ => none, []⟩
theorem hld_of {Bk : List Cl} {lv : LM} {tp : Nat} {ed : Int} {fl0 : List ByteArray} (hlv : lvl Bk = some lv) (h1 : tp ≤ Bk.length) (h2 : ∀ c ∈ Bk, gM lv c.th ≤ (tp : Nat)) : madF Bk lv ed (tp + 1) ⟨fl0.reverse, fun _ => none, []⟩ = hldM Bk ed fl0 := by
 unfold hldM lvOf; rw [hlv]; exact (madF_top h2 _ h1).symm
theorem hld_ok {Bk : List Cl} {ed : Int} {fl0 : List ByteArray} (h1 : ∀ c ∈ Bk, okS c.th) (h2 : ∀ s ∈ fl0, okS s) : ∀ s ∈ (hldM Bk ed fl0).S, okS s := fun s hs => by
 rcases madF_mem _ _ _ _ _ s hs with h | ⟨c, hc, rfl⟩
 ·exact h2 s (List.mem_reverse.1 h)
 ·exact h1 c hc
theorem made_yes {Bk : List Cl} {lv : LM} {A : Option Addr} {c lb tp bp : Nat} {ed : Int} {fl0 : List ByteArray} {fA0 : Option Addr} {fc0 : Nat} {w : World} (hbk : (bookB bp A Bk.length c lb (tp : Nat)).holds w) (hlv : (mapK Tryz.prog 9 3 kS okS dI lb (4096) lv).holds w) (hB : BkW w Bk A c) (hBl : Bk.length ≤ 64) (htp : tp ≤ 64) (hfl : Arr 1 eS w (.slice fA0 fl0.length fc0) fl0) (hok : ∀ s ∈ fl0, okS s) (hq : askB8 ed fl0 = true) :
  Calls Tryz.prog 39 #[.pointer (some ⟨bp, 0, none⟩), .int .i64 ed, .slice fA0 fl0.length fc0] w (Ret w (MdP Bk lv tp ed fl0) (fun t => .pointer (some ⟨t.wp, 0, none⟩)) (MdG bp ed fl0)) :=
 (made40 Bk lv A c lb tp bp ed fl0 fA0 fc0 w hbk hlv hB.row hB.cl hBl htp hfl hok).mono (fun _ _ h => by unfold RetMd at h; rwa [if_pos hq] at h)
theorem made_no {Bk : List Cl} {lv : LM} {A : Option Addr} {c lb tp bp : Nat} {ed : Int} {fl0 : List ByteArray} {fA0 : Option Addr} {fc0 : Nat} {w : World} (hbk : (bookB bp A Bk.length c lb (tp : Nat)).holds w) (hlv : (mapK Tryz.prog 9 3 kS okS dI lb (4096) lv).holds w) (hB : BkW w Bk A c) (hBl : Bk.length ≤ 64) (htp : tp ≤ 64) (hfl : Arr 1 eS w (.slice fA0 fl0.length fc0) fl0) (hok : ∀ s ∈ fl0, okS s) (hq : ¬ askB8 ed fl0 = true) :
  Calls Tryz.prog 39 #[.pointer (some ⟨bp, 0, none⟩), .int .i64 ed, .slice fA0 fl0.length fc0] w (Fails (-1) 2 w) :=
 (made40 Bk lv A c lb tp bp ed fl0 fA0 fc0 w hbk hlv hB.row hB.cl hBl htp hfl hok).mono (fun _ _ h => by unfold RetMd at h; rwa [if_neg hq] at h)
def hldQ (Bk : List Cl) (ed : Int) (fl0 : List ByteArray) : Option (Int × Int) := match bndF Bk with | some r => some r | none => if askB8 ed fl0 = true then none else some (-1, 2)

set_option maxRecDepth 100000 in
set_option maxHeartbeats 4000000 in
theorem q54_no (Bk : List Cl) (A : Option Addr) (c b3 b4 b5 b6 : Nat) (ed : Int) (fl0 : List ByteArray) (fA0 : Option Addr) (fc0 : Nat) (hok : ∀ s ∈ fl0, okS s) (w : World) (hl : (cellB b3 [.slice A Bk.length c] 51).holds w) (he : (cellB b4 [.int .i64 ed] 3).holds w) (hf : (cellB b5 [.slice fA0 fl0.length fc0] 47).holds w) (hbk : BkW w Bk A c) (hfl : Arr 1 eS w (.slice fA0 fl0.length fc0) fl0) {a n : Int} (hq : hldQ Bk ed fl0 = some (a, n)) : Calls Tryz.prog 37 #[.pointer (some ⟨b3, 0, none⟩), .pointer (some ⟨b4, 0, none⟩), .pointer (some ⟨b5, 0, none⟩), .pointer (some ⟨b6, 0, none⟩)] w (Fails a n w) := by
 refine J_enter (fun _ => False) (vs := [.pointer (some ⟨b3, 0, none⟩), .pointer (some ⟨b4, 0, none⟩), .pointer (some ⟨b5, 0, none⟩), .pointer (some ⟨b6, 0, none⟩)]) (k := 6) (l := [(0, .pointer (some ⟨b3, 0, none⟩)), (1, .pointer (some ⟨b4, 0, none⟩)), (2, .pointer (some ⟨b5, 0, none⟩)), (3, .pointer (some ⟨b6, 0, none⟩))]) Tryz.func37 rfl rfl Tryz.ntmps37 rfl rfl (Wd.start _) ?_
 obtain hb | ⟨a', n', hb⟩ := opt2 (bndF Bk)
 ·have hnq : ¬ askB8 ed fl0 = true := fun h => by unfold hldQ at hq; rw [hb] at hq; simp [h] at hq
  refine xD [0, 2, 3, 1, 4] [0, 2, 3] ?_
  refine dL rfl (vOld rfl rfl (fun h => h) (cellB_get hl rfl)) ?_
  refine dL rfl (vOld rfl rfl (fun h => h) (cellB_get he rfl)) ?_
  refine dL rfl (vOld rfl rfl (fun h => h) (cellB_get hf rfl)) ?_
  refine dW rfl (oR (fun w hw => bound_yes (hbk.up hw.bel) hb)) (fun t5 ht5 => ?_)
  obtain ⟨bp, lb, lv, top⟩ := t5
  obtain ⟨hlv, hin, htop, hge⟩ := ht5
  dsimp only [BdG, List.cons_append, List.nil_append] at hlv hin htop hge ⊢
  obtain ⟨tp, rfl⟩ : ∃ k : Nat, top = k := ⟨top.toNat, by omega⟩
  have h64 := bnd_64 hb
  refine dPan rfl (ecF rfl rfl) (fun w hw => made_no (hw.ok (bookB bp A Bk.length c lb (tp : Nat)) (by repeat constructor)).1 (hw.ok (mapK Tryz.prog 9 3 kS okS dI lb (4096) lv) (by repeat constructor)).1 (hbk.up hw.bel) h64 (by omega) (hfl.up ES hw.bel) hok hnq) ?_
  refine JR_panic ?_
  intro w' hw
  obtain ⟨rfl, rfl⟩ : a = -1 ∧ n = 2 := by unfold hldQ at hq; rw [hb] at hq; dsimp only at hq; rw [if_neg hnq] at hq; cases hq; exact ⟨rfl, rfl⟩
  exact ⟨rfl, hw.bel⟩
 ·obtain ⟨rfl, rfl⟩ : a' = a ∧ n' = n := by unfold hldQ at hq; rw [hb] at hq; cases hq; exact ⟨rfl, rfl⟩
  refine xD [0, 2, 3, 1] [0, 2, 3] ?_
  refine dL rfl (vOld rfl rfl (fun h => h) (cellB_get hl rfl)) ?_
  refine dL rfl (vOld rfl rfl (fun h => h) (cellB_get he rfl)) ?_
  refine dL rfl (vOld rfl rfl (fun h => h) (cellB_get hf rfl)) ?_
  refine dPan rfl (ecF rfl rfl) (fun w hw => bound_no (hbk.up hw.bel) hb) ?_
  refine JR_panic ?_
  intro w' hw
  exact ⟨rfl, hw.bel⟩
set_option maxRecDepth 100000 in
set_option maxHeartbeats 4000000 in
theorem q54_yes (Bk : List Cl) (A : Option Addr) (c b3 b4 b5 b6 : Nat) (ed : Int) (fl0 : List ByteArray) (fA0 : Option Addr) (fc0 : Nat) (hok : ∀ s ∈ fl0, okS s) (w : World) (hl : (cellB b3 [.slice A Bk.length c] 51).holds w) (he : (cellB b4 [.int .i64 ed] 3).holds w) (hf : (cellB b5 [.slice fA0 fl0.length fc0] 47).holds w) (w0 : World) (hbk : BkW w0 Bk A c) (hfl : Arr 1 eS w0 (.slice fA0 fl0.length fc0) fl0) (hb0 : Below w0.heap.size w0 w) (hA : (cellB b6 [.slice none 0 0] 47).holds w) (hAf : ∀ b, (cellB b6 [.slice none 0 0] 47).foot b → b < w.heap.size) (hA0 : ∀ b, (cellB b6 [.slice none 0 0] 47).foot b → w0.heap.size ≤ b) (hn3 : ¬ (cellB b6 [.slice none 0 0] 47).foot b3) (hn4 : ¬ (cellB b6 [.slice none 0 0] 47).foot b4) (hn5 : ¬ (cellB b6 [.slice none 0 0] 47).foot b5) (hq : hldQ Bk ed fl0 = none) : Calls Tryz.prog 37 #[.pointer (some ⟨b3, 0, none⟩), .pointer (some ⟨b4, 0, none⟩), .pointer (some ⟨b5, 0, none⟩), .pointer (some ⟨b6, 0, none⟩)] w (RetM (cellB b6 [.slice none 0 0] 47) (fun t : SoT => SoP (hldM Bk ed fl0).S t.L) (fun _ => .tuple #[]) (fun t => unI (cellB b6 [.slice t.A t.L.length t.c] 47) (ownB 9 1 t.A t.L.length t.c (t.L.flatMap eS))) w) := by
 obtain ⟨hb, hak⟩ : bndF Bk = none ∧ askB8 ed fl0 = true := by
  unfold hldQ at hq; cases hb : bndF Bk with
  | some r => rw [hb] at hq; cases hq
  | none => rw [hb] at hq; refine ⟨rfl, ?_⟩; cases h : askB8 ed fl0; simp [h] at hq; rfl
 refine J_start (B := ⟨w, (cellB b6 [.slice none 0 0] 47).foot, none, []⟩) rfl rfl (vs := [.pointer (some ⟨b3, 0, none⟩), .pointer (some ⟨b4, 0, none⟩), .pointer (some ⟨b5, 0, none⟩), .pointer (some ⟨b6, 0, none⟩)]) (k := 6) (l := [(0, .pointer (some ⟨b3, 0, none⟩)), (1, .pointer (some ⟨b4, 0, none⟩)), (2, .pointer (some ⟨b5, 0, none⟩)), (3, .pointer (some ⟨b6, 0, none⟩))]) Tryz.func37 rfl rfl Tryz.ntmps37 rfl rfl (Wd.startM hA hAf) ?_
 refine xD [0, 2, 3, 1, 4, 5, 6] [0, 2, 3] ?_
 refine dL rfl (vOld rfl rfl hn3 (cellB_get hl rfl)) ?_
 refine dL rfl (vOld rfl rfl hn4 (cellB_get he rfl)) ?_
 refine dL rfl (vOld rfl rfl hn5 (cellB_get hf rfl)) ?_
 refine dW rfl (oR (fun w hw => bound_yes (hbk.up (Wd.belO hw hb0 hA0)) hb)) (fun t5 ht5 => ?_)
 obtain ⟨bp, lb, lv, top⟩ := t5
 obtain ⟨hlv, hin, htop, hge⟩ := ht5
 dsimp only [BdG, List.cons_append, List.nil_append] at hlv hin htop hge ⊢
 obtain ⟨tp, rfl⟩ : ∃ k : Nat, top = k := ⟨top.toNat, by omega⟩
 have h64 := bnd_64 hb
 refine dW rfl (oR (fun w hw => made_yes (hw.ok (bookB bp A Bk.length c lb (tp : Nat)) (by repeat constructor)).1 (hw.ok (mapK Tryz.prog 9 3 kS okS dI lb (4096) lv) (by repeat constructor)).1 (hbk.up (Wd.belO hw hb0 hA0)) h64 (by omega) (hfl.up ES (Wd.belO hw hb0 hA0)) hok hak)) (fun t8 ht8 => ?_)
 obtain ⟨wp, hb', gb, rb, t⟩ := t8
 obtain ⟨hm, hmn, hmo⟩ := ht8
 dsimp only [MdG, List.cons_append, List.nil_append] at hm hmn hmo ⊢
 rw [hld_of hlv (by omega) (fun x hx => hge _ (hbk.cl x hx).tk)] at hm
 have hmk := hld_ok (ed := ed) (fun x hx => (hbk.cl x hx).tk) hok
 refine dW rfl (oR (fun w hw => facts55 t.m.S wp bp hb' gb rb ed t w (hw.ok (recB wp bp hb' gb rb ed t) (by repeat constructor)).1 (hw.ok (setB Tryz.prog 9 kS okS hb' t.m.S) (by repeat constructor)).1 (by rw [hm]; exact hmk) (by omega))) (fun t9 ht9 => ?_)
 rw [hm] at ht9
 refine s2 ?_
 refine JR_end rfl ?_
 intro w' hw
 exact ⟨t9, ht9, rfl, Wd.unite (hw.pick (by repeat constructor)) rfl rfl⟩
def RetHd (Bk : List Cl) (ed : Int) (fl0 : List ByteArray) (w : World) (e : Ending) (w' : World) : Prop := match hldQ Bk ed fl0 with
 | some (_, n) => Back (.tuple #[.slice none 0 0, .int .i64 n]) w e w'
 | none => Ret w (fun t : SoT => SoP (hldM Bk ed fl0).S t.L) (fun t => .tuple #[.slice t.A t.L.length t.c, .int .i64 0]) (fun t => [ownB 9 1 t.A t.L.length t.c (t.L.flatMap eS)]) e w'
set_option maxRecDepth 100000 in
set_option maxHeartbeats 4000000 in
theorem Holds16 (Bk : List Cl) (A : Option Addr) (c : Nat) (ed : Int) (fl0 : List ByteArray) (fA0 : Option Addr) (fc0 : Nat) (hok : ∀ s ∈ fl0, okS s) (w : World) (hbk : BkW w Bk A c) (hfl : Arr 1 eS w (.slice fA0 fl0.length fc0) fl0) : Calls Tryz.prog 11 #[.slice A Bk.length c, .int .i64 ed, .slice fA0 fl0.length fc0] w (RetHd Bk ed fl0 w) := by
 refine J_enter (fun _ => False) (vs := [.slice A Bk.length c, .int .i64 ed, .slice fA0 fl0.length fc0]) (k := 12) (l := [(0, .slice A Bk.length c), (1, .int .i64 ed), (2, .slice fA0 fl0.length fc0)]) Tryz.func11 rfl rfl Tryz.ntmps11 rfl rfl (Wd.start _) ?_
 refine s2 ?_
 refine aW (oX [_]) (fun b3 hb3 => ?_)
 refine aW (oX [_]) (fun b4 hb4 => ?_)
 refine aW (oX [_]) (fun b5 hb5 => ?_)
 refine aW oA (fun b6 hb6 => ?_)
 refine s4 ?_
 obtain hq | ⟨a, n, hq⟩ := opt2 (hldQ Bk ed fl0)
 ·refine kJ [(3, _), (4, _), (5, _), (6, _)] ?_
  refine s2 ?_
  refine aW (oM (fun w hw => answered_yes 37 #[.pointer (some ⟨b3, 0, none⟩), .pointer (some ⟨b4, 0, none⟩), .pointer (some ⟨b5, 0, none⟩), .pointer (some ⟨b6, 0, none⟩)] (cellB b6 [.slice none 0 0] 47) (fun t : SoT => SoP (hldM Bk ed fl0).S t.L) (fun t => unI (cellB b6 [.slice t.A t.L.length t.c] 47) (ownB 9 1 t.A t.L.length t.c (t.L.flatMap eS))) w (hw.ok (cellB b6 [.slice none 0 0] 47) (by repeat constructor)).1 (hw.newA (by repeat constructor) rfl).2 rfl (fun _ => rfl) (fun W hW => q54_yes Bk A c b3 b4 b5 b6 ed fl0 fA0 fc0 hok W (hw.keepO (C := cellB b3 [.slice A Bk.length c] 51) hW (by repeat constructor) rfl).1 (hw.keepO (C := cellB b4 [.int .i64 ed] 3) hW (by repeat constructor) rfl).1 (hw.keepO (C := cellB b5 [.slice fA0 fl0.length fc0] 47) hW (by repeat constructor) rfl).1 _ hbk hfl (hw.belM (A := cellB b6 [.slice none 0 0] 47) (by repeat constructor) rfl hW) (hW.ok (cellB b6 [.slice none 0 0] 47) (by repeat constructor)).1 (fun b hb => ((hW.ok (cellB b6 [.slice none 0 0] 47) (by repeat constructor)).2 b hb).2) (hw.newA (by repeat constructor) rfl).1 ((hw.keepO (C := cellB b3 [.slice A Bk.length c] 51) hW (by repeat constructor) rfl).2 b3 rfl) ((hw.keepO (C := cellB b4 [.int .i64 ed] 3) hW (by repeat constructor) rfl).2 b4 rfl) ((hw.keepO (C := cellB b5 [.slice fA0 fl0.length fc0] 47) hW (by repeat constructor) rfl).2 b5 rfl) hq))) (fun t10 ht10 => ?_)
  refine JL_split ?_
  refine s7 ?_
  refine kJ [(6, _), (7, _)] ?_
  refine s8 ?_
  refine JR_two rfl (rr_cell rfl Agg.h (by repeat constructor) (by rfl)) (rr_tmp rfl) ?_
  intro w' hw
  unfold RetHd; rw [hq]
  exact ⟨t10, ht10, rfl, hw.pick (by repeat constructor)⟩
 ·refine kJ [(3, _), (4, _), (5, _), (6, _)] ?_
  refine s2 ?_
  refine aCB (fun w hw => answered_no 37 #[.pointer (some ⟨b3, 0, none⟩), .pointer (some ⟨b4, 0, none⟩), .pointer (some ⟨b5, 0, none⟩), .pointer (some ⟨b6, 0, none⟩)] a n w (fun W hW => q54_no Bk A c b3 b4 b5 b6 ed fl0 fA0 fc0 hok W ((cellB b3 [.slice A Bk.length c] 51).st _ _ (fun b h => hW.block b ((hw.ok _ (by repeat constructor)).2 b h).2) (hw.ok (cellB b3 [.slice A Bk.length c] 51) (by repeat constructor)).1) ((cellB b4 [.int .i64 ed] 3).st _ _ (fun b h => hW.block b ((hw.ok _ (by repeat constructor)).2 b h).2) (hw.ok (cellB b4 [.int .i64 ed] 3) (by repeat constructor)).1) ((cellB b5 [.slice fA0 fl0.length fc0] 47).st _ _ (fun b h => hW.block b ((hw.ok _ (by repeat constructor)).2 b h).2) (hw.ok (cellB b5 [.slice fA0 fl0.length fc0] 47) (by repeat constructor)).1) ((hbk.up hw.bel).up hW) ((hfl.up ES hw.bel).up ES hW) hq)) ?_
  refine s7 ?_
  refine kJ [(6, _), (7, _)] ?_
  refine s8 ?_
  refine JR_two rfl (rr_cell rfl Agg.h (by repeat constructor) (by rfl)) (rr_tmp rfl) ?_
  intro w' hw
  unfold RetHd; rw [hq]
  exact ⟨rfl, hw.bel⟩
end Go.Proofs.YtmcpnoailbmkkaaGreatDoor
/- The program: indices. -/
namespace Go.Proofs.YtmcpnoailbmkkaaGreatDoor
open Go Go.RowKit Go.Proofs
attribute [local irreducible] J JQ JL JA JD

def inB (Bk : List Cl) (i : Int) : Bool := decide (0 ≤ i ∧ i ≤ ((Bk.length : Nat) : Int) - 1)
theorem arr_partsI {w : World} {A : Option Addr} {n c : Nat} {l : List Int} (h : Arr 1 eI w (.slice A n c) l) : l.length ≤ 9223372036854775807 ∧ (l ≠ [] → ∃ b o, A = some ⟨b, o, none⟩ ∧ HoldL 1 eI w b o l) := by
 obtain ⟨A', c', e, -, ⟨h1, -⟩, h2⟩ := h
 injection e with e1
 rw [e1]; exact ⟨h1, h2⟩
/-- Indices, or a refusal. -/
def RetIx (Bk : List Cl) (l : List Int) (w : World) (e : Ending) (w' : World) : Prop := if l.all (inB Bk) = true then Back (.tuple #[]) w e w' else Fails (-1) 4 w e w'

set_option maxRecDepth 100000 in
set_option maxHeartbeats 4000000 in
theorem index43 (Bk : List Cl) (BA : Option Addr) (bc lb bp : Nat) (top : Int) (l : List Int) (lA : Option Addr) (lc : Nat) (w : World) (hbk : (bookB bp BA Bk.length bc lb top).holds w) (hBl : Bk.length ≤ 64) (hl : Arr 1 eI w (.slice lA l.length lc) l) : Calls Tryz.prog 46 #[.pointer (some ⟨bp, 0, none⟩), .slice lA l.length lc] w (RetIx Bk l w) := by
 obtain ⟨hlb, hlA⟩ := arr_partsI hl
 refine J_enter (fun _ => False) (vs := [.pointer (some ⟨bp, 0, none⟩), .slice lA l.length lc]) (k := 20) (l := [(0, .pointer (some ⟨bp, 0, none⟩)), (1, .slice lA l.length lc)]) Tryz.func46 rfl rfl Tryz.ntmps46 rfl rfl (Wd.start _) ?_
 refine s8 ?_
 refine xL (T := Nat) (fun k => k ≤ l.length ∧ l.all (inB Bk) = (l.drop k).all (inB Bk)) (fun k => [(0, .pointer (some ⟨bp, 0, none⟩)), (6, .slice lA l.length lc), (7, .int .i64 (l.length : Nat)), (8, .int .i64 (k : Nat))]) (fun k => []) (fun k => l.length - k) 0 ⟨Nat.zero_le _, rfl⟩ ?_
 rintro k ⟨hk, hall⟩
 refine s3 ?_
 refine JL_dec (fun h9 => ?_) (fun h9 => ?_)
 ·refine s9 ?_
  have hlty : k < l.length := by omega
  obtain ⟨bqy, pqy, rfl, hhl⟩ := hlA (by intro e; rw [e] at hlty; simp at hlty)
  obtain ⟨y, hy⟩ : ∃ y, l[k]'hlty = y := ⟨_, rfl⟩
  have hmy : y ∈ l := by rw [← hy]; exact List.getElem_mem _
  refine s2 ?_
  refine aV (vHold rfl rfl (fun h => h) hhl hlty (by omega) (by rw [hy]; rfl)) ?_
  refine s8 ?_
  refine aV (vOld rfl rfl (fun h => h) (cellB_get hbk rfl)) ?_
  refine s2 ?_
  refine aCB (fun w hw => within65 _ _ _ w) ?_
  refine JL_dec (fun h19 => ?_) (fun h19 => ?_)
  ·refine aCB (fun w hw => need_yes _ _ w) ?_
   refine s3 ?_
   refine kJ [(0, _), (6, _), (7, _), (8, _)] ?_
   refine s4 ?_
   have hn : l.all (inB Bk) = (l.drop (k + 1)).all (inB Bk) := by rw [hall, List.drop_eq_getElem_cons hlty, hy, List.all_cons, show inB Bk y = true from decide_eq_true h19, Bool.true_and]
   exact xR (k + 1) ⟨by omega, hn⟩ (by omega)
  ·refine aPan (ecF rfl rfl) (fun w hw => need_no _ _ w) ?_
   refine s4 ?_
   refine JR_panic ?_
   intro w' hw
   unfold RetIx; rw [if_neg (by rw [hall, List.drop_eq_getElem_cons hlty, hy, List.all_cons, show inB Bk y = false from decide_eq_false h19, Bool.false_and]; simp)]
   exact ⟨rfl, hw.bel⟩
 ·refine s8 ?_
  refine JR_end rfl ?_
  intro w' hw
  obtain rfl : k = l.length := by omega
  unfold RetIx; rw [if_pos (by rw [hall, List.drop_length]; rfl)]
  exact ⟨rfl, hw.bel⟩
end Go.Proofs.YtmcpnoailbmkkaaGreatDoor
/- What a claim wants: why. -/
namespace Go.Proofs.YtmcpnoailbmkkaaGreatDoor
open Go Go.RowKit Go.Proofs
attribute [local irreducible] J JQ JL JA JD

theorem Wd.was {A C : It} {H : List It} {r : Option Nat} {d : List Deferred} {w w1 : World} (hw : Wd ⟨w, A.foot, r, d⟩ H w1) (hC : C.holds w) (hlt : ∀ b, C.foot b → b < w.heap.size) (hf : ∀ b, C.foot b → ¬ A.foot b) : C.holds w1 := C.st _ _ (fun b hb => hw.block b (hlt b hb) (hf b hb)) hC
theorem cellB_lt {b : Nat} {v : Value} {vs : List Value} {ty : TypeId} {w : World} (h : (cellB b (v :: vs) ty).holds w) : b < w.heap.size := lt_cell (cellB_get h (off := 0) rfl)
theorem HoldL.lt {α : Type} {k : Nat} {enc : α → List Value} (E : Enc k enc) (hk : 0 < k) {w : World} {b o j : Nat} {l : List α} (h : HoldL k enc w b o l) (hj : j < l.length) : b < w.heap.size := by
 have h1 := h j hj 0 hk
 obtain ⟨v, hv⟩ : ∃ v, (enc (l[j]'hj))[0]? = some v := ⟨_, List.getElem?_eq_getElem (by rw [E.1]; exact hk)⟩
 rw [hv] at h1; exact lt_cell h1
/-- The If facts of a clause. -/
def fsOf (Bk : List Cl) (i : Int) : List ByteArray := match Bk[i.toNat]? with | some c => c.fs.l | none => []
/-- The reasons that a fact wants, besides those that are wanted. -/
def wanF (Bk : List Cl) (R : LM) : Nat → List Int → ByteArray → List Int
 | 0, W, _ => W
 | k + 1, W, x => match R x with
  | none => W
  | some i => if i ∈ W then W else (fsOf Bk i).foldl (wanF Bk R k) (i :: W)
def muW (Bk : List Cl) (W : List Int) : Nat := ((List.range Bk.length).filter (fun i => !decide (((i : Nat) : Int) ∈ W))).length
theorem filt_le {p q : Nat → Bool} (h : ∀ j, p j = true → q j = true) : ∀ l : List Nat, (l.filter p).length ≤ (l.filter q).length
 | [] => Nat.le_refl _
 | c :: l => by
  have ih := filt_le h l
  rw [List.filter_cons, List.filter_cons]
  cases hp : p c with
  | true => rw [if_pos rfl, if_pos (h c hp), List.length_cons, List.length_cons]; omega
  | false => rw [if_neg (by decide)]; split
             ·rw [List.length_cons]; omega
             ·exact ih
theorem filt_lt {p q : Nat → Bool} (h : ∀ j, p j = true → q j = true) {i : Nat} (h1 : p i = false) (h2 : q i = true) : ∀ l : List Nat, i ∈ l → (l.filter p).length < (l.filter q).length
 | c :: l, hm => by
  have hle := filt_le h l
  rw [List.filter_cons, List.filter_cons]
  by_cases e : c = i
  ·subst e
   rw [h1, h2, if_neg (by decide), if_pos rfl, List.length_cons]; omega
  ·have hm' : i ∈ l := by
    rcases List.mem_cons.1 hm with h | h
    ·exact absurd h.symm e
    ·exact h
   have ih := filt_lt h h1 h2 l hm'
   cases hp : p c with
   | true => rw [if_pos rfl, if_pos (h c hp), List.length_cons, List.length_cons]; omega
   | false => rw [if_neg (by decide)]; split
              ·rw [List.length_cons]; omega
              ·exact ih
theorem muW_le {W W' : List Int} (h : ∀ x ∈ W, x ∈ W') (Bk : List Cl) : muW Bk W' ≤ muW Bk W := filt_le (fun j hj => by
 simp only [Bool.not_eq_true', decide_eq_false_iff_not] at hj ⊢
 exact fun hm => hj (h _ hm)) _
theorem muW_lt {Bk : List Cl} {W : List Int} {i : Nat} (hi : i < Bk.length) (hn : ((i : Nat) : Int) ∉ W) : muW Bk (((i : Nat) : Int) :: W) < muW Bk W := filt_lt (fun j hj => by
 simp only [Bool.not_eq_true', decide_eq_false_iff_not] at hj ⊢
 exact fun hm => hj (List.mem_cons_of_mem _ hm)) (i := i) (by rw [decide_eq_true List.mem_cons_self]; rfl) (by rw [decide_eq_false hn]; rfl) _ (List.mem_range.2 hi)
/-- Reasons that are indices. -/
def RixP (Bk : List Cl) (R : LM) : Prop := ∀ x i, R x = some i → ∃ j : Nat, j < Bk.length ∧ i = j
theorem wan_cnt {Bk : List Cl} {R : LM} (hR : RixP Bk R) : ∀ (k : Nat) (W : List Int) (x : ByteArray), (∀ y ∈ W, y ∈ wanF Bk R k W x) ∧ (wanF Bk R k W x).length + muW Bk (wanF Bk R k W x) ≤ W.length + muW Bk W
 | 0, _, _ => ⟨fun _ h => h, Nat.le_refl _⟩
 | k + 1, W, x => by
  unfold wanF
  cases hx : R x with
  | none => exact ⟨fun _ h => h, Nat.le_refl _⟩
  | some i =>
   dsimp only
   split
   ·exact ⟨fun _ h => h, Nat.le_refl _⟩
   ·rename_i hn
    obtain ⟨j, hj, rfl⟩ := hR x i hx
    have key : ∀ (l : List ByteArray) (W : List Int), (∀ y ∈ W, y ∈ l.foldl (wanF Bk R k) W) ∧ (l.foldl (wanF Bk R k) W).length + muW Bk (l.foldl (wanF Bk R k) W) ≤ W.length + muW Bk W := by
     intro l
     induction l with
     | nil => intro W; exact ⟨fun _ h => h, Nat.le_refl _⟩
     | cons z l ih =>
      intro W
      obtain ⟨h1, h2⟩ := wan_cnt hR k W z
      obtain ⟨h3, h4⟩ := ih (wanF Bk R k W z)
      exact ⟨fun y hy => h3 y (h1 y hy), Nat.le_trans h4 h2⟩
    obtain ⟨h1, h2⟩ := key (fsOf Bk ((j : Nat) : Int)) (((j : Nat) : Int) :: W)
    have := muW_lt hj hn
    refine ⟨fun y hy => h1 y (List.mem_cons_of_mem _ hy), Nat.le_trans h2 ?_⟩
    rw [List.length_cons]; omega
theorem wan_fold {Bk : List Cl} {R : LM} (hR : RixP Bk R) (k : Nat) : ∀ (l : List ByteArray) (W : List Int), (∀ y ∈ W, y ∈ l.foldl (wanF Bk R k) W) ∧ (l.foldl (wanF Bk R k) W).length + muW Bk (l.foldl (wanF Bk R k) W) ≤ W.length + muW Bk W
 | [], W => ⟨fun _ h => h, Nat.le_refl _⟩
 | z :: l, W => by
  obtain ⟨h1, h2⟩ := wan_cnt hR k W z
  obtain ⟨h3, h4⟩ := wan_fold hR k l (wanF Bk R k W z)
  exact ⟨fun y hy => h3 y (h1 y hy), Nat.le_trans h4 h2⟩
theorem wan_s {Bk : List Cl} {R : LM} {k j : Nat} {l : List ByteArray} {z : ByteArray} {W : List Int} (h : j < l.length) (hz : l[j]'h = z) : (l.take (j + 1)).foldl (wanF Bk R k) W = wanF Bk R k ((l.take j).foldl (wanF Bk R k) W) z := by
 rw [List.take_succ_eq_append_getElem h, List.foldl_append, hz]; rfl
theorem muW_0 (Bk : List Cl) (W : List Int) : muW Bk W ≤ Bk.length := Nat.le_trans (List.length_filter_le _ _) (by rw [List.length_range]; exact Nat.le_refl _)
structure WhT where
 wp : Nat
 bp : Nat
 hb : Nat
 gb : Nat
 rb : Nat
 lb : Nat
 b2 : Nat
 b5 : Nat
 b6 : Nat
 gw : Nat
abbrev whC2 (t : WhT) : It := cellB t.b2 [.pointer (some ⟨t.wp, 0, none⟩)] 107
abbrev whC5 (t : WhT) : It := cellB t.b5 [.map (some t.gw)] 201
abbrev whC6 (t : WhT) : It := cellB t.b6 [.func (.func 95) #[] #[.pointer (some ⟨t.b2, 0, none⟩), .pointer (some ⟨t.b5, 0, none⟩), .pointer (some ⟨t.b6, 0, none⟩)]] 202
/-- What the closure reads. -/
structure WhH (Bk : List Cl) (BA : Option Addr) (bc : Nat) (top ed : Int) (s : RS) (t : WhT) (w : World) : Prop where
 c2 : (whC2 t).holds w
 c5 : (whC5 t).holds w
 c6 : (whC6 t).holds w
 rcd : (recB t.wp t.bp t.hb t.gb t.rb ed s).holds w
 mp : (mapK Tryz.prog 9 3 kS okS dI t.rb (s.m.S.length) s.m.R).holds w
 bk : (bookB t.bp BA Bk.length bc t.lb top).holds w
 n2 : t.b2 ≠ t.gw
 n5 : t.b5 ≠ t.gw
 n6 : t.b6 ≠ t.gw
 nw : t.wp ≠ t.gw
 nr : t.rb ≠ t.gw
 nb : t.bp ≠ t.gw
theorem WhH.up {Bk : List Cl} {BA : Option Addr} {bc : Nat} {top ed : Int} {s : RS} {t : WhT} {w w1 : World} {W : List Int} {H : List It} {r : Option Nat} {d : List Deferred} (h : WhH Bk BA bc top ed s t w) (hw : Wd ⟨w, (setB Tryz.prog 3 kI W64 t.gw W).foot, r, d⟩ H w1) : WhH Bk BA bc top ed s t w1 :=
 ⟨hw.was (C := whC2 t) h.c2 (fun b e => by cases e; exact cellB_lt h.c2) (fun b e e' => by cases e; exact h.n2 e'), hw.was (C := whC5 t) h.c5 (fun b e => by cases e; exact cellB_lt h.c5) (fun b e e' => by cases e; exact h.n5 e'), hw.was (C := whC6 t) h.c6 (fun b e => by cases e; exact cellB_lt h.c6) (fun b e e' => by cases e; exact h.n6 e'),
  hw.was (C := recB t.wp t.bp t.hb t.gb t.rb ed s) h.rcd (fun b e => by cases e; exact cellB_lt h.rcd) (fun b e e' => by cases e; exact h.nw e'), hw.was (C := mapK Tryz.prog 9 3 kS okS dI t.rb (s.m.S.length) s.m.R) h.mp (fun b e => by cases e; exact mapK_lt h.mp) (fun b e e' => by cases e; exact h.nr e'), hw.was (C := bookB t.bp BA Bk.length bc t.lb top) h.bk (fun b e => by cases e; exact cellB_lt h.bk) (fun b e e' => by cases e; exact h.nb e'), h.n2, h.n5, h.n6, h.nw, h.nr, h.nb⟩

set_option maxRecDepth 100000 in
set_option maxHeartbeats 4000000 in
theorem why79 {Bk : List Cl} {BA : Option Addr} {bc : Nat} {top ed : Int} {s : RS} (hR : RixP Bk s.m.R) (h64 : Bk.length ≤ 64) : ∀ (k : Nat) (x : ByteArray) (_ : okS x) (W : List Int) (t : WhT) (w w0 : World) (_ : BkW w0 Bk BA bc) (_ : Below w0.heap.size w0 w) (_ : w0.heap.size ≤ t.gw) (_ : WhH Bk BA bc top ed s t w) (_ : (setB Tryz.prog 3 kI W64 t.gw W).holds w) (_ : muW Bk W < k) (_ : W.length + muW Bk W ≤ 64), Calls Tryz.prog 95 #[.string x, .pointer (some ⟨t.b2, 0, none⟩), .pointer (some ⟨t.b5, 0, none⟩), .pointer (some ⟨t.b6, 0, none⟩)] w (RetM (setB Tryz.prog 3 kI W64 t.gw W) (fun _ : Unit => True) (fun _ => .tuple #[]) (fun _ => setB Tryz.prog 3 kI W64 t.gw (wanF Bk s.m.R k W x)) w)
 | 0, _, _, _, _, _, _, _, _, _, _, _, hmu, _ => absurd hmu (Nat.not_lt_zero _)
 | k + 1, x, hxk, W, t, w, w0, hB, hb0, hg0, h, hA, hmu, hct => by
  obtain ⟨hBb, hBA⟩ := arr_partsC hB.row
  refine J_start (B := ⟨w, (setB Tryz.prog 3 kI W64 t.gw W).foot, none, []⟩) rfl rfl (vs := [.string x, .pointer (some ⟨t.b2, 0, none⟩), .pointer (some ⟨t.b5, 0, none⟩), .pointer (some ⟨t.b6, 0, none⟩)]) (k := 43) (l := [(0, .string x), (1, .pointer (some ⟨t.b2, 0, none⟩)), (2, .pointer (some ⟨t.b5, 0, none⟩)), (3, .pointer (some ⟨t.b6, 0, none⟩))]) Tryz.func95 rfl rfl Tryz.ntmps95 rfl rfl (Wd.startM hA (fun b e => by cases e; exact setB_lt hA)) ?_
  refine s1 ?_
  cases hx : s.m.R x
  ·refine s1 ?_
   refine aV (vOld rfl rfl h.n2 (cellB_get h.c2 rfl)) ?_
   refine s2 ?_
   refine aV (vOld rfl rfl h.nw (cellB_get h.rcd rfl)) ?_
   refine s1 ?_
   refine aV (show RV _ _ _ _ _ _ (.tuple #[.int .i64 0, .bool false]) from rv_lookKO2 KS LI64 x Und.h rfl rfl rfl h.nr h.mp rfl hxk hx) ?_
   refine s9 ?_
   skip
   ·refine kJ [(1, _), (2, _), (3, _), (5, _), (6, _)] ?_
    refine s13 ?_
    refine JR_none rfl ?_
    intro w' hw
    exact ⟨(), trivial, rfl, by unfold wanF; rw [hx]; exact hw.pick (by repeat constructor)⟩
  ·rename_i i0
   obtain ⟨i, hil, rfl⟩ := hR x i0 hx
   have hi64 : W64 ((i : Nat) : Int) := by unfold W64; omega
   refine s1 ?_
   refine aV (vOld rfl rfl h.n2 (cellB_get h.c2 rfl)) ?_
   refine s2 ?_
   refine aV (vOld rfl rfl h.nw (cellB_get h.rcd rfl)) ?_
   refine s1 ?_
   refine aV (show RV _ _ _ _ _ _ (.tuple #[.int .i64 ((i : Nat) : Int), .bool true]) from rv_lookKO2 KS LI64 x Und.h rfl rfl rfl h.nr h.mp rfl hxk hx) ?_
   refine s9 ?_
   by_cases hW : ((i : Nat) : Int) ∈ W
   ·refine kJ [(1, _), (2, _), (3, _), (5, _), (6, _)] ?_
    refine s4 ?_
    refine aV (vOld rfl rfl h.n5 (cellB_get h.c5 rfl)) ?_
    refine s1 ?_
    refine aV (rv_lookS KI LBool ((i : Nat) : Int) Und.h rfl rfl rfl (by repeat constructor) rfl hi64) ?_
    refine aDecT ?_ hW
    refine s6 ?_
    refine JR_none rfl ?_
    intro w' hw
    exact ⟨(), trivial, rfl, by unfold wanF; rw [hx]; dsimp only; rw [if_pos hW]; exact hw.pick (by repeat constructor)⟩
   ·refine kJ [(1, _), (2, _), (3, _), (5, _), (6, _)] ?_
    refine s4 ?_
    refine aV (vOld rfl rfl h.n5 (cellB_get h.c5 rfl)) ?_
    refine s1 ?_
    refine aV (rv_lookS KI LBool ((i : Nat) : Int) Und.h rfl rfl rfl (by repeat constructor) rfl hi64) ?_
    refine aDecF ?_ hW
    refine s7 ?_
    refine kJ [(1, _), (2, _), (3, _), (5, _)] ?_
    refine s1 ?_
    refine aV (vOld rfl rfl h.n5 (cellB_get h.c5 rfl)) ?_
    refine s1 ?_
    refine aW0 (ow_putS KI LBool ((i : Nat) : Int) Und.h rfl rfl rfl rfl rfl rfl rfl (by repeat constructor) hi64 (by omega)) ?_
    refine s3 ?_
    have hlt : i < Bk.length := hil
    obtain ⟨bB, pB, rfl, hhB⟩ := hBA (by intro e; subst e; simp at hlt)
    obtain ⟨⟨cn, cf, ct, ⟨fA, fn, fc, fl⟩, ⟨uA, un, uc, ul⟩, th⟩, hc⟩ : ∃ c, Bk[i]'hlt = c := ⟨_, rfl⟩
    have hcm : (⟨cn, cf, ct, ⟨fA, fn, fc, fl⟩, ⟨uA, un, uc, ul⟩, th⟩ : Cl) ∈ Bk := by rw [← hc]; exact List.getElem_mem _
    obtain ⟨hfs, hus, hfk, huk, hnk, htk⟩ := hB.cl _ hcm
    obtain rfl : fn = fl.length := dv_nc hfs
    obtain rfl : un = ul.length := dv_nc hus
    dsimp only [Dv.v] at hfs hus hfk huk hnk htk
    obtain ⟨hfb, hfA⟩ := arr_parts hfs
    obtain ⟨hub, huA⟩ := arr_parts hus
    refine s1 ?_
    refine aV (vOld rfl rfl h.n2 (cellB_get h.c2 rfl)) ?_
    refine s2 ?_
    refine aV (vOld rfl rfl h.nw (cellB_get h.rcd rfl)) ?_
    refine s2 ?_
    refine aV (vOld rfl rfl h.nb (cellB_get h.bk rfl)) ?_
    refine s1 ?_
    refine aP (pIdxI (i) rfl rfl rfl) ?_
    refine s1 ?_
    refine aV (vHold (v := .slice fA fl.length fc) rfl rfl (fun e => by have := HoldL.lt EC6 (by decide) hhB hlt; have e2 : bB = t.gw := e; omega) (hhB.up EC6 hb0) hlt (by omega) (by rw [hc]; rfl)) ?_
    refine s5 ?_
    refine xL (T := Nat) (fun j => j ≤ fl.length) (fun j => [(1, .pointer (some ⟨t.b2, 0, none⟩)), (2, .pointer (some ⟨t.b5, 0, none⟩)), (3, .pointer (some ⟨t.b6, 0, none⟩)), (37, .slice fA fl.length fc), (38, .int .i64 (fl.length : Nat)), (39, .int .i64 (j : Nat))]) (fun j => [setB Tryz.prog 3 kI W64 t.gw ((fl.take j).foldl (wanF Bk s.m.R k) (((i : Nat) : Int) :: W))]) (fun j => fl.length - j) 0 (Nat.zero_le _) ?_
    rintro j hj
    obtain ⟨hsub, hcnt⟩ := wan_fold hR k (fl.take j) (((i : Nat) : Int) :: W)
    have hlt1 := muW_lt hil hW
    rw [List.length_cons] at hcnt
    have hmu1 := muW_le hsub Bk
    refine s3 ?_
    refine JL_dec (fun h40 => ?_) (fun h40 => ?_)
    ·refine s9 ?_
     have hltz : j < fl.length := by omega
     obtain ⟨bqz, pqz, rfl, hhf⟩ := hfA (by intro e; rw [e] at hltz; simp at hltz)
     obtain ⟨z, hz⟩ : ∃ y, fl[j]'hltz = y := ⟨_, rfl⟩
     have hmz : z ∈ fl := by rw [← hz]; exact List.getElem_mem _
     refine s2 ?_
     refine aV (vHold rfl rfl (fun e => by have := HoldL.lt ES (by decide) hhf hltz; have e2 : bqz = t.gw := e; omega) (hhf.up ES hb0) hltz (by omega) (by rw [hz]; rfl)) ?_
     refine s4 ?_
     refine aV (vOld rfl rfl h.n6 (cellB_get h.c6 rfl)) ?_
     refine s1 ?_
     refine aW (ow_callM (ec_valE (args := #[.string z, .pointer (some ⟨t.b2, 0, none⟩), .pointer (some ⟨t.b5, 0, none⟩), .pointer (some ⟨t.b6, 0, none⟩)]) rfl rfl rfl Cf.h rfl) rfl rfl rfl (fun _ => rfl) (by intro t; repeat constructor) (fun w hw => why79 hR h64 k z (hfk z hmz) ((fl.take j).foldl (wanF Bk s.m.R k) (((i : Nat) : Int) :: W)) t w w0 hB (Wd.belO hw hb0 (fun b e => by cases e; exact hg0)) hg0 (h.up hw) (hw.ok _ (List.mem_cons_self)).1 (by omega) (by omega))) (fun _ _ => ?_)
     refine s3 ?_
     refine kJ [(1, _), (2, _), (3, _), (37, _), (38, _), (39, _)] ?_
     refine s4 ?_
     have hs : ((fl.take (j + 1)).foldl (wanF Bk s.m.R k) (((i : Nat) : Int) :: W)) = wanF Bk s.m.R k ((fl.take j).foldl (wanF Bk s.m.R k) (((i : Nat) : Int) :: W)) z := wan_s hltz hz
     exact xR (j + 1) (by omega) (by omega) (hl := ⟨rfl, rfl, rfl, rfl, rfl, (congrArg some (by go_num)), trivial⟩) (hH := by (try dsimp only); rw [hs]; repeat constructor)
    ·refine s8 ?_
     refine JR_end rfl ?_
     intro w' hw
     obtain rfl : j = fl.length := by omega
     refine ⟨(), trivial, rfl, ?_⟩
     unfold wanF; rw [hx]; dsimp only; rw [if_neg hW]
     have hfo : fsOf Bk ((i : Nat) : Int) = fl := by unfold fsOf; rw [Int.toNat_natCast, List.getElem?_eq_getElem hlt, hc]
     rw [hfo]; rw [List.take_length] at hw; exact hw.pick (by repeat constructor)
end Go.Proofs.YtmcpnoailbmkkaaGreatDoor
/- What a question comes to, in plain Lean. -/
namespace Go.Proofs.YtmcpnoailbmkkaaGreatDoor
open Go Go.RowKit Go.Proofs
attribute [local irreducible] J JQ JL JA JD

theorem bnd_ne {Bk : List Cl} {a n : Int} (hb : bndF Bk = some (a, n)) : n ≠ 0 := by
 unfold bndF at hb; split at hb
 ·cases hb; decide
 ·split at hb
  ·cases hb; decide
  ·split at hb <;> cases hb; decide
theorem hld_ne {Bk : List Cl} {ed : Int} {fl0 : List ByteArray} {a n : Int} (h : hldQ Bk ed fl0 = some (a, n)) : n ≠ 0 := by
 unfold hldQ at h
 cases hb : bndF Bk with
 | some r => rw [hb] at h; obtain ⟨x, y⟩ := r; cases h; exact bnd_ne hb
 | none => rw [hb] at h; dsimp only at h; split at h <;> cases h; decide
theorem hld_parts {Bk : List Cl} {ed : Int} {fl0 : List ByteArray} (h : hldQ Bk ed fl0 = none) : bndF Bk = none ∧ askB8 ed fl0 = true := by
 unfold hldQ at h
 cases hb : bndF Bk with
 | some r => rw [hb] at h; cases h
 | none => rw [hb] at h; refine ⟨rfl, ?_⟩; cases hk : askB8 ed fl0; simp [hk] at h; rfl
theorem ask_64 {ed : Int} {fl0 : List ByteArray} (h : askB8 ed fl0 = true) : fl0.length ≤ 64 := by
 unfold askB8 at h; rw [Bool.and_eq_true] at h; have := namesB_len h.2; omega
/-- Reasons are indices. -/
theorem mkL_O {Bk : List Cl} {p : Int → Prop} (hp : ∀ i : Nat, i < Bk.length → p i) : ∀ (l : List Nat) (m : MS), (∀ x ∈ m.O, p x) → ∀ x ∈ (mkL Bk m l).O, p x
 | [], _, h => h
 | i :: l, m, h => mkL_O hp l (mkC Bk m i) (fun x hx => by
  unfold mkC at hx
  split at hx
  ·exact h x hx
  ·rename_i c hc
   split at hx
   ·exact h x hx
   ·rcases List.mem_append.1 hx with hx | hx
    ·exact h x hx
    ·rw [List.mem_singleton.1 hx]; exact hp i (List.getElem?_eq_some_iff.1 hc).1)
theorem hld_O (Bk : List Cl) (ed : Int) (fl0 : List ByteArray) : ∀ x ∈ (hldM Bk ed fl0).O, ∃ i : Nat, i < Bk.length ∧ x = i := by
 have hr : ∀ (n : Nat) (j : Nat) (m : MS), (∀ x ∈ m.O, ∃ i : Nat, i < Bk.length ∧ x = i) → ∀ x ∈ (rndF Bk (lvOf Bk) n ed j m).O, ∃ i : Nat, i < Bk.length ∧ x = i := by
  intro n j
  induction j with
  | zero => intro m h; exact h
  | succ j ih =>
   intro m h; unfold rndF; split
   ·exact h
   ·exact ih _ (mkL_O (p := fun x => ∃ i : Nat, i < Bk.length ∧ x = i) (fun i hi => ⟨i, hi, rfl⟩) _ m h)
 have key : ∀ k, ∀ x ∈ (madF Bk (lvOf Bk) ed k ⟨fl0.reverse, fun _ => none, []⟩).O, ∃ i : Nat, i < Bk.length ∧ x = i := by
  intro k
  induction k with
  | zero => intro x hx; cases hx
  | succ k ih => rw [madF_s]; unfold levF; exact hr _ _ _ ih
 exact key _
/-- The reasons backwards, of what is still wanted. -/
def bwC (Bk : List Cl) (s : List ByteArray × List Int) (i : Int) : List ByteArray × List Int := match Bk[i.toNat]? with
 | none => s
 | some c => if c.th ∈ s.1 then (s.1 ++ c.fs.l, [i] ++ s.2) else s
def whyQ (Bk : List Cl) (ed : Int) (fl0 : List ByteArray) (x : ByteArray) : Option (Int × Int) := match hldQ Bk ed fl0 with
 | some r => some r
 | none => if nmB8 x = true then (if x ∈ (hldM Bk ed fl0).S then none else some (-1, 7)) else some (-1, 2)
/-- The derivation of a claim, or why there is none. -/
def RetWy (f : MS → List Int) (Bk : List Cl) (ed : Int) (fl0 : List ByteArray) (x : ByteArray) (w : World) (e : Ending) (w' : World) : Prop := match whyQ Bk ed fl0 x with
 | some (_, n) => Back (.tuple #[.slice none 0 0, .int .i64 n]) w e w'
 | none => Ret w (fun _ : Option Addr × Nat => True) (fun t => .tuple #[.slice t.1 (f (hldM Bk ed fl0)).length t.2, .int .i64 0]) (fun t => [ownB 3 1 t.1 (f (hldM Bk ed fl0)).length t.2 ((f (hldM Bk ed fl0)).flatMap eI)]) e w'
/-- Whether a step stands, with what is known ahead of it. -/
def okC (ed : Int) (S K : List ByteArray) (c : Cl) : Bool := decide (c.f ≤ ed ∧ ed ≤ c.t) && c.fs.l.all (fun x => decide (x ∈ K)) && c.us.l.all (fun x => !decide (x ∈ S))
/-- The first step that breaks a condition, if any, and what is known. -/
def prv (Bk : List Cl) (ed : Int) (S : List ByteArray) : List Int → Nat → List ByteArray → Option Nat × List ByteArray
 | [], _, K => (none, K)
 | i :: l, k, K => match Bk[i.toNat]? with
  | none => (none, K)
  | some c => if okC ed S K c = true then prv Bk ed S l (k + 1) (c.th :: K) else (some k, K)
theorem prv_s {Bk : List Cl} {ed : Int} {S K : List ByteArray} {l : List Int} {k i : Nat} {c : Cl} (h : k < l.length) (hi : i < Bk.length) (hy : l[k]'h = (i : Nat)) (hc : Bk[i]'hi = c) : prv Bk ed S (l.drop k) k K = if okC ed S K c = true then prv Bk ed S (l.drop (k + 1)) (k + 1) (c.th :: K) else (some k, K) := by
 rw [List.drop_eq_getElem_cons h, hy]
 show (match Bk[((i : Nat) : Int).toNat]? with | none => _ | some c => _) = _
 rw [Int.toNat_natCast, List.getElem?_eq_getElem hi, hc]
def prvQ (Bk : List Cl) (ed : Int) (fl0 : List ByteArray) (x : ByteArray) (l : List Int) : Option (Int × Int) := match hldQ Bk ed fl0 with
 | some r => some r
 | none => if nmB8 x = true then (if l.all (inB Bk) = true then none else some (-1, 4)) else some (-1, 2)
def prvV (x : ByteArray) : Option Nat × List ByteArray → Value
 | (some k, _) => .tuple #[.bool false, .int .i64 (k : Nat), .int .i64 0]
 | (none, K) => .tuple #[.bool (decide (x ∈ K)), .int .i64 (-1), .int .i64 0]
def prvR (Bk : List Cl) (ed : Int) (fl0 : List ByteArray) (x : ByteArray) (l : List Int) : Value := match prvQ Bk ed fl0 x l with
 | some (_, n) => .tuple #[.bool false, .int .i64 (-1), .int .i64 n]
 | none => prvV x (prv Bk ed (hldM Bk ed fl0).S l 0 fl0.reverse)
theorem in_k {Bk : List Cl} {l : List Int} (h : l.all (inB Bk) = true) {y : Int} (hy : y ∈ l) : ∃ i : Nat, i < Bk.length ∧ y = i := by
 have := List.all_eq_true.1 h y hy
 unfold inB at this
 rw [decide_eq_true_eq] at this
 exact ⟨y.toNat, by omega, by omega⟩
end Go.Proofs.YtmcpnoailbmkkaaGreatDoor
/- The program: Why. -/
namespace Go.Proofs.YtmcpnoailbmkkaaGreatDoor
open Go Go.RowKit Go.Proofs
attribute [local irreducible] J JQ JL JA JD

theorem It.up {C : It} {w w1 : World} (hC : C.holds w) (hlt : ∀ b, C.foot b → b < w.heap.size) (hb : Below w.heap.size w w1) : C.holds w1 := C.st _ _ (fun b h => hb.block b (hlt b h)) hC
theorem Wd.apart {A C : It} {B : Bs} {H : List It} {w : World} (hw : Wd B H w) (hk : Pk [A, C] H) (hA : A.ro = false) {b : Nat} (h1 : A.foot b) (h2 : C.foot b) : False := by
 have h := (List.pairwise_cons.1 (hw.pick hk).sep).1 C (by simp)
 rcases h with ⟨h, -⟩ | h
 ·rw [hA] at h; cases h
 ·exact h b h1 h2
theorem mkL_R {Bk : List Cl} : ∀ (l : List Nat) (m : MS), RixP Bk m.R → RixP Bk (mkL Bk m l).R
 | [], _, h => h
 | i :: l, m, h => mkL_R l (mkC Bk m i) (by
  intro x j hx
  unfold mkC at hx
  split at hx
  ·exact h x j hx
  ·rename_i c hc
   split at hx
   ·exact h x j hx
   ·dsimp only [upd] at hx
    split at hx
    ·injection hx with hx
     exact ⟨i, (List.getElem?_eq_some_iff.1 hc).1, hx.symm⟩
    ·exact h x j hx)
theorem hld_R (Bk : List Cl) (ed : Int) (fl0 : List ByteArray) : RixP Bk (hldM Bk ed fl0).R := by
 have hr : ∀ (n : Nat) (j : Nat) (m : MS), RixP Bk m.R → RixP Bk (rndF Bk (lvOf Bk) n ed j m).R := by
  intro n j
  induction j with
  | zero => intro m h; exact h
  | succ j ih =>
   intro m h; unfold rndF; split
   ·exact h
   ·exact ih _ (mkL_R _ m h)
 have key : ∀ k, RixP Bk (madF Bk (lvOf Bk) ed k ⟨fl0.reverse, fun _ => none, []⟩).R := by
  intro k
  induction k with
  | zero => intro x i hx; cases hx
  | succ k ih => rw [madF_s]; unfold levF; exact hr _ _ _ ih
 exact key _
/-- The steps of a claim's derivation, by the program. -/
def whF (W O : List Int) : List Int := O.filter (fun i => decide (i ∈ W))
def whyP (Bk : List Cl) (m : MS) (x : ByteArray) : List Int := whF (wanF Bk m.R (Bk.length + 1) [] x) m.O
theorem whF_s {W O : List Int} {k : Nat} {y : Int} (h : k < O.length) (hy : O[k]'h = y) : whF W (O.take (k + 1)) = if y ∈ W then whF W (O.take k) ++ [y] else whF W (O.take k) := by
 unfold whF; rw [List.take_succ_eq_append_getElem h, List.filter_append, hy]
 by_cases e : y ∈ W <;> simp [e]
theorem whF_len (W O : List Int) (k : Nat) : (whF W (O.take k)).length ≤ k := Nat.le_trans (List.length_filter_le _ _) (by rw [List.length_take]; omega)
set_option maxRecDepth 100000 in
set_option maxHeartbeats 4000000 in
theorem why57 {Bk : List Cl} {BA : Option Addr} {bc : Nat} {top ed : Int} {m : MS} {A0 : Option Addr} {c0 wp bp hb gb rb lb : Nat} (hR : RixP Bk m.R) (h64 : Bk.length ≤ 64) (hOi : ∀ y ∈ m.O, ∃ i : Nat, i < Bk.length ∧ y = i) (hOl : m.O.length ≤ 128) (x : ByteArray) (hxk : okS x) (w0 : World) (hB : BkW w0 Bk BA bc) (hrec : (recB wp bp hb gb rb ed (⟨m, A0, c0⟩ : RS)).holds w0) (hmp : (mapK Tryz.prog 9 3 kS okS dI rb (m.S.length) m.R).holds w0) (hbk : (bookB bp BA Bk.length bc lb top).holds w0) (hO : Arr 1 eI w0 (.slice A0 m.O.length c0) m.O) : Calls Tryz.prog 44 #[.pointer (some ⟨wp, 0, none⟩), .string x] w0 (RetS 3 1 eI (whyP Bk m x) w0) := by
 obtain ⟨hOb, hOA⟩ := arr_partsI hO
 refine J_enter (fun _ => False) (vs := [.pointer (some ⟨wp, 0, none⟩), .string x]) (k := 31) (l := [(0, .pointer (some ⟨wp, 0, none⟩)), (1, .string x)]) Tryz.func44 rfl rfl Tryz.ntmps44 rfl rfl (Wd.start _) ?_
 refine s2 ?_
 refine aW (oX [_]) (fun b2 hb2 => ?_)
 refine s5 ?_
 refine aW (ow_makeSet (kt := 3) (kv := kI) (ok := W64) rfl rfl rfl (fun _ => by kernel_rfl)) (fun b10 hb10 => ?_)
 refine aW oA (fun b5 hb5 => ?_)
 refine s5 ?_
 refine aW oA (fun b6 hb6 => ?_)
 refine s9 ?_
 refine kJ [(1, _), (2, _), (5, _), (6, _)] ?_
 refine s3 ?_
 refine aW (ow_callM (ec_valE (args := #[.string x, .pointer (some ⟨b2, 0, none⟩), .pointer (some ⟨b5, 0, none⟩), .pointer (some ⟨b6, 0, none⟩)]) rfl rfl rfl Cf.h rfl) rfl rfl rfl (fun _ => rfl) (by intro t; repeat constructor) (fun w hw => why79 (s := (⟨m, A0, c0⟩ : RS)) hR h64 (Bk.length + 1) x hxk [] ⟨wp, bp, hb, gb, rb, lb, b2, b5, b6, b10⟩ w w0 hB hw.bel hb10 ⟨(hw.ok (cellB b2 [.pointer (some ⟨wp, 0, none⟩)] 107) (by repeat constructor)).1, (hw.ok (cellB b5 [.map (some b10)] 201) (by repeat constructor)).1, (hw.ok (cellB b6 [.func (.func 95) #[] #[.pointer (some ⟨b2, 0, none⟩), .pointer (some ⟨b5, 0, none⟩), .pointer (some ⟨b6, 0, none⟩)]] 202) (by repeat constructor)).1, (It.up (C := (recB wp bp hb gb rb ed (⟨m, A0, c0⟩ : RS))) hrec (fun b e => by cases e; exact cellB_lt hrec) hw.bel), (It.up (C := mapK Tryz.prog 9 3 kS okS dI rb (m.S.length) m.R) hmp (fun b e => by cases e; exact mapK_lt hmp) hw.bel), (It.up (C := (bookB bp BA Bk.length bc lb top)) hbk (fun b e => by cases e; exact cellB_lt hbk) hw.bel), (fun e => hw.apart (A := cellB b2 [.pointer (some ⟨wp, 0, none⟩)] 107) (C := setB Tryz.prog 3 kI W64 b10 []) (by repeat constructor) rfl (b := b2) rfl e), (fun e => hw.apart (A := cellB b5 [.map (some b10)] 201) (C := setB Tryz.prog 3 kI W64 b10 []) (by repeat constructor) rfl (b := b5) rfl e), (fun e => hw.apart (A := cellB b6 [.func (.func 95) #[] #[.pointer (some ⟨b2, 0, none⟩), .pointer (some ⟨b5, 0, none⟩), .pointer (some ⟨b6, 0, none⟩)]] 202) (C := setB Tryz.prog 3 kI W64 b10 []) (by repeat constructor) rfl (b := b6) rfl e), (fun e => by have := cellB_lt hrec; have e2 : wp = b10 := e; have e3 : w0.heap.size ≤ b10 := hb10; omega), (fun e => by have := mapK_lt hmp; have e2 : rb = b10 := e; have e3 : w0.heap.size ≤ b10 := hb10; omega), (fun e => by have := cellB_lt hbk; have e2 : bp = b10 := e; have e3 : w0.heap.size ≤ b10 := hb10; omega)⟩ (hw.ok (setB Tryz.prog 3 kI W64 b10 []) (by repeat constructor)).1 (by have := muW_0 Bk []; omega) (by have := muW_0 Bk []; show 0 + _ ≤ _; omega))) (fun _ _ => ?_)
 refine s3 ?_
 refine kJ [(2, _), (5, _)] ?_
 refine s6 ?_
 refine J_own0 3 1 ?_
 refine s4 ?_
 refine aV (vOld rfl rfl (fun h => h) (cellB_get hrec rfl)) ?_
 refine s5 ?_
 refine xL (T := Nat × Option Addr × Nat) (fun q => q.1 ≤ m.O.length) (fun q => [(5, .pointer (some ⟨b5, 0, none⟩)), (7, .slice q.2.1 (whF (wanF Bk m.R (Bk.length + 1) [] x) (m.O.take q.1)).length q.2.2), (18, .slice A0 m.O.length c0), (19, .int .i64 (m.O.length : Nat)), (20, .int .i64 (q.1 : Nat))]) (fun q => [cellB b5 [.map (some b10)] 201, setB Tryz.prog 3 kI W64 b10 (wanF Bk m.R (Bk.length + 1) [] x), ownB 3 1 q.2.1 (whF (wanF Bk m.R (Bk.length + 1) [] x) (m.O.take q.1)).length q.2.2 ((whF (wanF Bk m.R (Bk.length + 1) [] x) (m.O.take q.1)).flatMap eI)]) (fun q => m.O.length - q.1) (0, none, 0) (Nat.zero_le _) ?_
 rintro ⟨k, vA, vc⟩ hk
 dsimp only at hk ⊢
 have hfl := whF_len (wanF Bk m.R (Bk.length + 1) [] x) m.O k
 refine s3 ?_
 refine JL_dec (fun h21 => ?_) (fun h21 => ?_)
 ·refine s9 ?_
  have hlty : k < m.O.length := by omega
  obtain ⟨bqy, pqy, rfl, hho⟩ := hOA (by intro e; rw [e] at hlty; simp at hlty)
  obtain ⟨y, hy⟩ : ∃ y, m.O[k]'hlty = y := ⟨_, rfl⟩
  have hmy : y ∈ m.O := by rw [← hy]; exact List.getElem_mem _
  obtain ⟨i, hil, rfl⟩ := hOi y hmy
  have hi64 : W64 ((i : Nat) : Int) := by unfold W64; omega
  refine s2 ?_
  refine aV (vHold rfl rfl (fun h => h) hho hlty (by omega) (by rw [hy]; rfl)) ?_
  refine s7 ?_
  refine aV (rv_lookS KI LBool ((i : Nat) : Int) Und.h rfl rfl rfl (by repeat constructor) rfl hi64) ?_
  refine JL_dec (fun h26 => ?_) (fun h26 => ?_)
  ·refine s3 ?_
   refine kJ [(5, _), (7, _), (9, _), (18, _), (19, _), (20, _)] ?_
   refine s3 ?_
   refine aW (ow_sliceC (vs := [_]) (ty := 3) rfl rfl (by rfl) rfl rfl (fun _ => by kernel_rfl)) (fun b29 hb29 => ?_)
   refine aS (oApp (sl := 34) EI (((i : Nat) : Int))) (fun A30 c30 => ?_)
   refine s4 ?_
   refine kJ [(5, _), (7, _), (18, _), (19, _), (20, _)] ?_
   refine s4 ?_
   have hs : (whF (wanF Bk m.R (Bk.length + 1) [] x) (m.O.take (k + 1))) = (whF (wanF Bk m.R (Bk.length + 1) [] x) (m.O.take k)) ++ [((i : Nat) : Int)] := by rw [whF_s hlty hy, if_pos h26]
   exact xR (k + 1, A30, c30) (by dsimp only; omega) (by dsimp only; omega) (hl := ⟨rfl, (by dsimp only; rw [hs]; rfl), rfl, rfl, (congrArg some (by go_num)), trivial⟩) (hH := by (try dsimp only); rw [hs]; repeat constructor)
  ·refine s6 ?_
   refine kJ [(5, _), (7, _), (18, _), (19, _), (20, _)] ?_
   refine s4 ?_
   have hs : (whF (wanF Bk m.R (Bk.length + 1) [] x) (m.O.take (k + 1))) = (whF (wanF Bk m.R (Bk.length + 1) [] x) (m.O.take k)) := by rw [whF_s hlty hy, if_neg h26]
   exact xR (k + 1, vA, vc) (by dsimp only; omega) (by dsimp only; omega) (hl := ⟨rfl, (by dsimp only; rw [hs]; rfl), rfl, rfl, (congrArg some (by go_num)), trivial⟩) (hH := by (try dsimp only); rw [hs]; repeat constructor)
 ·refine s10 ?_
  refine kJ [(7, _)] ?_
  refine s6 ?_
  refine JR_one rfl (rr_tmp rfl) ?_
  intro w' hw
  obtain rfl : k = m.O.length := by omega
  rw [List.take_length] at hw
  exact ⟨vA, vc, by unfold whyP; rw [List.take_length], hw.pick (by repeat constructor)⟩
theorem why_hq {Bk : List Cl} {ed : Int} {fl0 : List ByteArray} {x : ByteArray} (h : whyQ Bk ed fl0 x = none) : hldQ Bk ed fl0 = none ∧ nmB8 x = true ∧ x ∈ (hldM Bk ed fl0).S := by
 unfold whyQ at h
 cases hb : hldQ Bk ed fl0 with
 | some r => rw [hb] at h; cases h
 | none =>
  rw [hb] at h; dsimp only at h
  split at h
  ·rename_i h1
   split at h
   ·rename_i h2; exact ⟨rfl, h1, h2⟩
   ·cases h
  ·cases h
theorem why_q1 {Bk : List Cl} {ed : Int} {fl0 : List ByteArray} {x : ByteArray} {a n a' n' : Int} (h : whyQ Bk ed fl0 x = some (a, n)) (hb : hldQ Bk ed fl0 = some (a', n')) : a' = a ∧ n' = n := by
 unfold whyQ at h; rw [hb] at h; cases h; exact ⟨rfl, rfl⟩
theorem why_q2 {Bk : List Cl} {ed : Int} {fl0 : List ByteArray} {x : ByteArray} {a n : Int} (h : whyQ Bk ed fl0 x = some (a, n)) (hb : hldQ Bk ed fl0 = none) (hx : nmB8 x = false) : a = -1 ∧ n = 2 := by
 unfold whyQ at h; rw [hb] at h; dsimp only at h; rw [if_neg (by rw [hx]; decide)] at h; cases h; exact ⟨rfl, rfl⟩
theorem why_q3 {Bk : List Cl} {ed : Int} {fl0 : List ByteArray} {x : ByteArray} {a n : Int} (h : whyQ Bk ed fl0 x = some (a, n)) (hb : hldQ Bk ed fl0 = none) (hx : nmB8 x = true) : (a = -1 ∧ n = 7) ∧ x ∉ (hldM Bk ed fl0).S := by
 unfold whyQ at h; rw [hb] at h; dsimp only at h; rw [if_pos hx] at h
 split at h
 ·cases h
 ·rename_i h1; cases h; exact ⟨⟨rfl, rfl⟩, h1⟩
theorem hld_q1 {Bk : List Cl} {ed : Int} {fl0 : List ByteArray} {a n a' n' : Int} (hb : bndF Bk = some (a', n')) (h : hldQ Bk ed fl0 = some (a, n)) : a' = a ∧ n' = n := by
 unfold hldQ at h; rw [hb] at h; cases h; exact ⟨rfl, rfl⟩
theorem hld_q2 {Bk : List Cl} {ed : Int} {fl0 : List ByteArray} {a n : Int} (hb : bndF Bk = none) (h : hldQ Bk ed fl0 = some (a, n)) : (a = -1 ∧ n = 2) ∧ ¬ askB8 ed fl0 = true := by
 unfold hldQ at h; rw [hb] at h; dsimp only at h; split at h
 ·cases h
 ·rename_i h1; cases h; exact ⟨⟨rfl, rfl⟩, h1⟩
theorem why_cs {Bk : List Cl} {ed : Int} {fl0 : List ByteArray} {x : ByteArray} {a n : Int} (h : whyQ Bk ed fl0 x = some (a, n)) : (∃ a' n', bndF Bk = some (a', n') ∧ a' = a ∧ n' = n) ∨ (bndF Bk = none ∧ ¬ askB8 ed fl0 = true ∧ a = -1 ∧ n = 2) ∨ (bndF Bk = none ∧ askB8 ed fl0 = true ∧ hldQ Bk ed fl0 = none ∧ nmB8 x = false ∧ a = -1 ∧ n = 2) ∨ (bndF Bk = none ∧ askB8 ed fl0 = true ∧ hldQ Bk ed fl0 = none ∧ nmB8 x = true ∧ x ∉ (hldM Bk ed fl0).S ∧ a = -1 ∧ n = 7) := by
 obtain hk | ⟨a', n', hk⟩ := opt2 (hldQ Bk ed fl0)
 ·obtain ⟨hb, hak⟩ := hld_parts hk
  cases hx : nmB8 x with
  | false => exact .inr (.inr (.inl ⟨hb, hak, hk, rfl, why_q2 h hk hx⟩))
  | true => obtain ⟨h1, h2⟩ := why_q3 h hk hx; exact .inr (.inr (.inr ⟨hb, hak, hk, rfl, h2, h1⟩))
 ·obtain ⟨rfl, rfl⟩ := why_q1 h hk
  obtain hb | ⟨a', n', hb⟩ := opt2 (bndF Bk)
  ·obtain ⟨h1, h2⟩ := hld_q2 hb hk; exact .inr (.inl ⟨hb, h2, h1⟩)
  ·obtain ⟨rfl, rfl⟩ := hld_q1 hb hk; exact .inl ⟨_, _, hb, rfl, rfl⟩
set_option maxRecDepth 100000 in
set_option maxHeartbeats 4000000 in
theorem q56_no (Bk : List Cl) (A : Option Addr) (c b4 b5 b6 b7 b8 : Nat) (ed : Int) (fl0 : List ByteArray) (fA0 : Option Addr) (fc0 : Nat) (hok : ∀ s ∈ fl0, okS s) (x : ByteArray) (hxk : okS x) (w : World) (hl : (cellB b4 [.slice A Bk.length c] 51).holds w) (he : (cellB b5 [.int .i64 ed] 3).holds w) (hf : (cellB b6 [.slice fA0 fl0.length fc0] 47).holds w) (hx : (cellB b7 [.string x] 9).holds w) (hbk : BkW w Bk A c) (hfl : Arr 1 eS w (.slice fA0 fl0.length fc0) fl0) {a n : Int} (hq : whyQ Bk ed fl0 x = some (a, n)) : Calls Tryz.prog 41 #[.pointer (some ⟨b4, 0, none⟩), .pointer (some ⟨b5, 0, none⟩), .pointer (some ⟨b6, 0, none⟩), .pointer (some ⟨b7, 0, none⟩), .pointer (some ⟨b8, 0, none⟩)] w (Fails a n w) := by
 refine J_enter (fun _ => False) (vs := [.pointer (some ⟨b4, 0, none⟩), .pointer (some ⟨b5, 0, none⟩), .pointer (some ⟨b6, 0, none⟩), .pointer (some ⟨b7, 0, none⟩), .pointer (some ⟨b8, 0, none⟩)]) (k := 19) (l := [(0, .pointer (some ⟨b4, 0, none⟩)), (1, .pointer (some ⟨b5, 0, none⟩)), (2, .pointer (some ⟨b6, 0, none⟩)), (3, .pointer (some ⟨b7, 0, none⟩)), (4, .pointer (some ⟨b8, 0, none⟩))]) Tryz.func41 rfl rfl Tryz.ntmps41 rfl rfl (Wd.start _) ?_
 refine s1 ?_
 rcases why_cs hq with ⟨a', n', hb, rfl, rfl⟩ | ⟨hb, hnq, rfl, rfl⟩ | ⟨hb, hak, hk, hnm, rfl, rfl⟩ | ⟨hb, hak, hk, hnm, hnin, rfl, rfl⟩
 ·refine xD [0, 2, 3, 1] [0, 2, 3] ?_
  refine dL rfl (vOld rfl rfl (fun h => h) (cellB_get hl rfl)) ?_
  refine dL rfl (vOld rfl rfl (fun h => h) (cellB_get he rfl)) ?_
  refine dL rfl (vOld rfl rfl (fun h => h) (cellB_get hf rfl)) ?_
  refine dPan rfl (ecF rfl rfl) (fun w hw => bound_no (hbk.up hw.bel) hb) ?_
  refine s1 ?_
  refine JR_panic ?_
  intro w' hw
  exact ⟨rfl, hw.bel⟩
 ·refine xD [0, 2, 3, 1, 4] [0, 2, 3] ?_
  refine dL rfl (vOld rfl rfl (fun h => h) (cellB_get hl rfl)) ?_
  refine dL rfl (vOld rfl rfl (fun h => h) (cellB_get he rfl)) ?_
  refine dL rfl (vOld rfl rfl (fun h => h) (cellB_get hf rfl)) ?_
  refine dW rfl (oR (fun w hw => bound_yes (hbk.up hw.bel) hb)) (fun t7 ht7 => ?_)
  obtain ⟨bp, lb, lv, top⟩ := t7
  obtain ⟨hlv, hin, htop, hge⟩ := ht7
  dsimp only [BdG, List.cons_append, List.nil_append] at hlv hin htop hge ⊢
  obtain ⟨tp, rfl⟩ : ∃ k : Nat, top = k := ⟨top.toNat, by omega⟩
  have h64 := bnd_64 hb
  refine dPan rfl (ecF rfl rfl) (fun w hw => made_no (hw.ok (bookB bp A Bk.length c lb (tp : Nat)) (by repeat constructor)).1 (hw.ok (mapK Tryz.prog 9 3 kS okS dI lb (4096) lv) (by repeat constructor)).1 (hbk.up hw.bel) h64 (by omega) (hfl.up ES hw.bel) hok hnq) ?_
  refine s1 ?_
  refine JR_panic ?_
  intro w' hw
  exact ⟨rfl, hw.bel⟩
 ·refine xD [0, 2, 3, 1, 4, 5] [0, 2, 3] ?_
  refine dL rfl (vOld rfl rfl (fun h => h) (cellB_get hl rfl)) ?_
  refine dL rfl (vOld rfl rfl (fun h => h) (cellB_get he rfl)) ?_
  refine dL rfl (vOld rfl rfl (fun h => h) (cellB_get hf rfl)) ?_
  refine dW rfl (oR (fun w hw => bound_yes (hbk.up hw.bel) hb)) (fun t7 ht7 => ?_)
  obtain ⟨bp, lb, lv, top⟩ := t7
  obtain ⟨hlv, hin, htop, hge⟩ := ht7
  dsimp only [BdG, List.cons_append, List.nil_append] at hlv hin htop hge ⊢
  obtain ⟨tp, rfl⟩ : ∃ k : Nat, top = k := ⟨top.toNat, by omega⟩
  have h64 := bnd_64 hb
  refine dW rfl (oR (fun w hw => made_yes (hw.ok (bookB bp A Bk.length c lb (tp : Nat)) (by repeat constructor)).1 (hw.ok (mapK Tryz.prog 9 3 kS okS dI lb (4096) lv) (by repeat constructor)).1 (hbk.up hw.bel) h64 (by omega) (hfl.up ES hw.bel) hok hak)) (fun t10 ht10 => ?_)
  obtain ⟨wp, hb', gb, rb, t⟩ := t10
  obtain ⟨hm, hmn, hmo⟩ := ht10
  obtain ⟨m, A0, c0⟩ := t
  dsimp only [MdG, List.cons_append, List.nil_append] at hm hmn hmo ⊢
  rw [hld_of hlv (by omega) (fun x hx => hge _ (hbk.cl x hx).tk)] at hm
  have hmk := hld_ok (ed := ed) (fun x hx => (hbk.cl x hx).tk) hok
  subst hm
  refine s4 ?_
  refine kJ [(3, _), (4, _), (5, _)] ?_
  refine s1 ?_
  refine aV (vOld rfl rfl (fun h => h) (cellB_get hx rfl)) ?_
  refine aCB (fun w hw => named42 x w hxk) ?_
  refine aBoolF ?_ hnm
  refine aPan (ecF rfl rfl) (fun w hw => need_no _ _ w) ?_
  refine s1 ?_
  refine JR_panic ?_
  intro w' hw
  exact ⟨rfl, hw.bel⟩
 ·refine xD [0, 2, 3, 1, 4, 5] [0, 2, 3] ?_
  refine dL rfl (vOld rfl rfl (fun h => h) (cellB_get hl rfl)) ?_
  refine dL rfl (vOld rfl rfl (fun h => h) (cellB_get he rfl)) ?_
  refine dL rfl (vOld rfl rfl (fun h => h) (cellB_get hf rfl)) ?_
  refine dW rfl (oR (fun w hw => bound_yes (hbk.up hw.bel) hb)) (fun t7 ht7 => ?_)
  obtain ⟨bp, lb, lv, top⟩ := t7
  obtain ⟨hlv, hin, htop, hge⟩ := ht7
  dsimp only [BdG, List.cons_append, List.nil_append] at hlv hin htop hge ⊢
  obtain ⟨tp, rfl⟩ : ∃ k : Nat, top = k := ⟨top.toNat, by omega⟩
  have h64 := bnd_64 hb
  refine dW rfl (oR (fun w hw => made_yes (hw.ok (bookB bp A Bk.length c lb (tp : Nat)) (by repeat constructor)).1 (hw.ok (mapK Tryz.prog 9 3 kS okS dI lb (4096) lv) (by repeat constructor)).1 (hbk.up hw.bel) h64 (by omega) (hfl.up ES hw.bel) hok hak)) (fun t10 ht10 => ?_)
  obtain ⟨wp, hb', gb, rb, t⟩ := t10
  obtain ⟨hm, hmn, hmo⟩ := ht10
  obtain ⟨m, A0, c0⟩ := t
  dsimp only [MdG, List.cons_append, List.nil_append] at hm hmn hmo ⊢
  rw [hld_of hlv (by omega) (fun x hx => hge _ (hbk.cl x hx).tk)] at hm
  have hmk := hld_ok (ed := ed) (fun x hx => (hbk.cl x hx).tk) hok
  subst hm
  refine s4 ?_
  refine kJ [(3, _), (4, _), (5, _)] ?_
  refine s1 ?_
  refine aV (vOld rfl rfl (fun h => h) (cellB_get hx rfl)) ?_
  refine aCB (fun w hw => named42 x w hxk) ?_
  refine aBoolT ?_ hnm
  refine aCB (fun w hw => need_yes _ _ w) ?_
  refine s3 ?_
  refine xD [0, 1, 2, 3, 4, 5, 6] [3, 4, 5] ?_
  refine s4 ?_
  refine dL rfl (vOld rfl rfl (fun h => h) (cellB_get hx rfl)) ?_
  refine dL rfl (rv_lookS KS LBool x Und.h rfl rfl rfl (by repeat constructor) rfl hxk) ?_
  refine dDecF ?_ hnin
  refine dPan rfl (ecF rfl rfl) (fun w hw => need_no _ _ w) ?_
  refine s1 ?_
  refine JR_panic ?_
  intro w' hw
  exact ⟨rfl, hw.bel⟩
set_option maxRecDepth 100000 in
set_option maxHeartbeats 4000000 in
theorem q56_yes (Bk : List Cl) (A : Option Addr) (c b4 b5 b6 b7 b8 : Nat) (ed : Int) (fl0 : List ByteArray) (fA0 : Option Addr) (fc0 : Nat) (hok : ∀ s ∈ fl0, okS s) (x : ByteArray) (hxk : okS x) (w : World) (hl : (cellB b4 [.slice A Bk.length c] 51).holds w) (he : (cellB b5 [.int .i64 ed] 3).holds w) (hf : (cellB b6 [.slice fA0 fl0.length fc0] 47).holds w) (hx : (cellB b7 [.string x] 9).holds w) (w0 : World) (hbk : BkW w0 Bk A c) (hfl : Arr 1 eS w0 (.slice fA0 fl0.length fc0) fl0) (hb0 : Below w0.heap.size w0 w) (hA : (cellB b8 [.slice none 0 0] 34).holds w) (hAf : ∀ b, (cellB b8 [.slice none 0 0] 34).foot b → b < w.heap.size) (hA0 : ∀ b, (cellB b8 [.slice none 0 0] 34).foot b → w0.heap.size ≤ b) (hn4 : ¬ (cellB b8 [.slice none 0 0] 34).foot b4) (hn5 : ¬ (cellB b8 [.slice none 0 0] 34).foot b5) (hn6 : ¬ (cellB b8 [.slice none 0 0] 34).foot b6) (hn7 : ¬ (cellB b8 [.slice none 0 0] 34).foot b7) (hq : whyQ Bk ed fl0 x = none) : Calls Tryz.prog 41 #[.pointer (some ⟨b4, 0, none⟩), .pointer (some ⟨b5, 0, none⟩), .pointer (some ⟨b6, 0, none⟩), .pointer (some ⟨b7, 0, none⟩), .pointer (some ⟨b8, 0, none⟩)] w (RetM (cellB b8 [.slice none 0 0] 34) (fun _ : Option Addr × Nat => True) (fun _ => .tuple #[]) (fun t => unI (cellB b8 [.slice t.1 (whyP Bk (hldM Bk ed fl0) x).length t.2] 34) (ownB 3 1 t.1 (whyP Bk (hldM Bk ed fl0) x).length t.2 ((whyP Bk (hldM Bk ed fl0) x).flatMap eI))) w) := by
 obtain ⟨hk, hnm, hinS⟩ := why_hq hq
 obtain ⟨hb, hak⟩ := hld_parts hk
 refine J_start (B := ⟨w, (cellB b8 [.slice none 0 0] 34).foot, none, []⟩) rfl rfl (vs := [.pointer (some ⟨b4, 0, none⟩), .pointer (some ⟨b5, 0, none⟩), .pointer (some ⟨b6, 0, none⟩), .pointer (some ⟨b7, 0, none⟩), .pointer (some ⟨b8, 0, none⟩)]) (k := 19) (l := [(0, .pointer (some ⟨b4, 0, none⟩)), (1, .pointer (some ⟨b5, 0, none⟩)), (2, .pointer (some ⟨b6, 0, none⟩)), (3, .pointer (some ⟨b7, 0, none⟩)), (4, .pointer (some ⟨b8, 0, none⟩))]) Tryz.func41 rfl rfl Tryz.ntmps41 rfl rfl (Wd.startM hA hAf) ?_
 refine s1 ?_
 refine xD [0, 2, 3, 1, 4, 5] [0, 2, 3] ?_
 refine dL rfl (vOld rfl rfl hn4 (cellB_get hl rfl)) ?_
 refine dL rfl (vOld rfl rfl hn5 (cellB_get he rfl)) ?_
 refine dL rfl (vOld rfl rfl hn6 (cellB_get hf rfl)) ?_
 refine dW rfl (oR (fun w hw => bound_yes (hbk.up (Wd.belO hw hb0 hA0)) hb)) (fun t7 ht7 => ?_)
 obtain ⟨bp, lb, lv, top⟩ := t7
 obtain ⟨hlv, hin, htop, hge⟩ := ht7
 dsimp only [BdG, List.cons_append, List.nil_append] at hlv hin htop hge ⊢
 obtain ⟨tp, rfl⟩ : ∃ k : Nat, top = k := ⟨top.toNat, by omega⟩
 have h64 := bnd_64 hb
 refine dW rfl (oR (fun w hw => made_yes (hw.ok (bookB bp A Bk.length c lb (tp : Nat)) (by repeat constructor)).1 (hw.ok (mapK Tryz.prog 9 3 kS okS dI lb (4096) lv) (by repeat constructor)).1 (hbk.up (Wd.belO hw hb0 hA0)) h64 (by omega) (hfl.up ES (Wd.belO hw hb0 hA0)) hok hak)) (fun t10 ht10 => ?_)
 obtain ⟨wp, hb', gb, rb, t⟩ := t10
 obtain ⟨hm, hmn, hmo⟩ := ht10
 obtain ⟨m, A0, c0⟩ := t
 dsimp only [MdG, List.cons_append, List.nil_append] at hm hmn hmo ⊢
 rw [hld_of hlv (by omega) (fun x hx => hge _ (hbk.cl x hx).tk)] at hm
 have hmk := hld_ok (ed := ed) (fun x hx => (hbk.cl x hx).tk) hok
 subst hm
 refine s4 ?_
 refine kJ [(3, _), (4, _), (5, _)] ?_
 refine s1 ?_
 refine aV (vOld rfl rfl hn7 (cellB_get hx rfl)) ?_
 refine aCB (fun w hw => named42 x w hxk) ?_
 refine aBoolT ?_ hnm
 refine aCB (fun w hw => need_yes _ _ w) ?_
 refine s3 ?_
 refine xD [0, 1, 2, 3, 4, 5, 6] [3, 4, 5] ?_
 refine s4 ?_
 refine dL rfl (vOld rfl rfl hn7 (cellB_get hx rfl)) ?_
 refine dL rfl (rv_lookS KS LBool x Und.h rfl rfl rfl (by repeat constructor) rfl hxk) ?_
 refine dDecT ?_ hinS
 refine dCB rfl (fun w hw => need_yes _ _ w) ?_
 refine s2 ?_
 refine kJ [(3, _), (4, _), (5, _)] ?_
 refine s2 ?_
 refine aV (vOld rfl rfl hn7 (cellB_get hx rfl)) ?_
 refine aS (oS (fun w hw => why57 (bc := c) (BA := A) (top := (tp : Nat)) (lb := lb) (hR := hld_R Bk ed fl0) h64 (hld_O Bk ed fl0) (by omega) x hxk w (hbk.up (Wd.belO hw hb0 hA0)) (hw.ok (recB wp bp hb' gb rb ed ⟨(hldM Bk ed fl0), A0, c0⟩) (by repeat constructor)).1 (hw.ok (mapK Tryz.prog 9 3 kS okS dI rb ((hldM Bk ed fl0).S.length) (hldM Bk ed fl0).R) (by repeat constructor)).1 (hw.ok (bookB bp A Bk.length c lb (tp : Nat)) (by repeat constructor)).1 (own_arr EI hw (by repeat constructor) (by omega)))) (fun A23 c23 => ?_)
 refine s2 ?_
 refine JR_end rfl ?_
 intro w' hw
 exact ⟨(A23, c23), trivial, rfl, Wd.unite (hw.pick (by repeat constructor)) rfl rfl⟩
set_option maxRecDepth 100000 in
set_option maxHeartbeats 4000000 in
theorem Why21 (Bk : List Cl) (A : Option Addr) (c : Nat) (ed : Int) (fl0 : List ByteArray) (fA0 : Option Addr) (fc0 : Nat) (x : ByteArray) (hok : ∀ s ∈ fl0, okS s) (hxk : okS x) (w : World) (hbk : BkW w Bk A c) (hfl : Arr 1 eS w (.slice fA0 fl0.length fc0) fl0) : Calls Tryz.prog 15 #[.slice A Bk.length c, .int .i64 ed, .slice fA0 fl0.length fc0, .string x] w (RetWy (fun m => whyP Bk m x) Bk ed fl0 x w) := by
 refine J_enter (fun _ => False) (vs := [.slice A Bk.length c, .int .i64 ed, .slice fA0 fl0.length fc0, .string x]) (k := 13) (l := [(0, .slice A Bk.length c), (1, .int .i64 ed), (2, .slice fA0 fl0.length fc0), (3, .string x)]) Tryz.func15 rfl rfl Tryz.ntmps15 rfl rfl (Wd.start _) ?_
 refine s2 ?_
 refine aW (oX [_]) (fun b4 hb4 => ?_)
 refine aW (oX [_]) (fun b5 hb5 => ?_)
 refine aW (oX [_]) (fun b6 hb6 => ?_)
 refine aW (oX [_]) (fun b7 hb7 => ?_)
 refine aW oA (fun b8 hb8 => ?_)
 refine s4 ?_
 obtain hq | ⟨a, n, hq⟩ := opt2 (whyQ Bk ed fl0 x)
 ·refine kJ [(4, _), (5, _), (6, _), (7, _), (8, _)] ?_
  refine s2 ?_
  refine aW (oM (fun w hw => answered_yes 41 #[.pointer (some ⟨b4, 0, none⟩), .pointer (some ⟨b5, 0, none⟩), .pointer (some ⟨b6, 0, none⟩), .pointer (some ⟨b7, 0, none⟩), .pointer (some ⟨b8, 0, none⟩)] (cellB b8 [.slice none 0 0] 34) (fun _ : Option Addr × Nat => True) (fun t => unI (cellB b8 [.slice t.1 (whyP Bk (hldM Bk ed fl0) x).length t.2] 34) (ownB 3 1 t.1 (whyP Bk (hldM Bk ed fl0) x).length t.2 ((whyP Bk (hldM Bk ed fl0) x).flatMap eI))) w (hw.ok (cellB b8 [.slice none 0 0] 34) (by repeat constructor)).1 (hw.newA (by repeat constructor) rfl).2 rfl (fun _ => rfl) (fun W hW => q56_yes Bk A c b4 b5 b6 b7 b8 ed fl0 fA0 fc0 hok x hxk W (hw.keepO (C := cellB b4 [.slice A Bk.length c] 51) hW (by repeat constructor) rfl).1 (hw.keepO (C := cellB b5 [.int .i64 ed] 3) hW (by repeat constructor) rfl).1 (hw.keepO (C := cellB b6 [.slice fA0 fl0.length fc0] 47) hW (by repeat constructor) rfl).1 (hw.keepO (C := cellB b7 [.string x] 9) hW (by repeat constructor) rfl).1 _ hbk hfl (hw.belM (A := cellB b8 [.slice none 0 0] 34) (by repeat constructor) rfl hW) (hW.ok (cellB b8 [.slice none 0 0] 34) (by repeat constructor)).1 (fun b hb => ((hW.ok (cellB b8 [.slice none 0 0] 34) (by repeat constructor)).2 b hb).2) (hw.newA (by repeat constructor) rfl).1 ((hw.keepO (C := cellB b4 [.slice A Bk.length c] 51) hW (by repeat constructor) rfl).2 b4 rfl) ((hw.keepO (C := cellB b5 [.int .i64 ed] 3) hW (by repeat constructor) rfl).2 b5 rfl) ((hw.keepO (C := cellB b6 [.slice fA0 fl0.length fc0] 47) hW (by repeat constructor) rfl).2 b6 rfl) ((hw.keepO (C := cellB b7 [.string x] 9) hW (by repeat constructor) rfl).2 b7 rfl) hq))) (fun t12 ht12 => ?_)
  refine JL_split ?_
  refine s7 ?_
  refine kJ [(8, _), (9, _)] ?_
  refine s8 ?_
  refine JR_two rfl (rr_cell rfl Agg.h (by repeat constructor) (by rfl)) (rr_tmp rfl) ?_
  intro w' hw
  unfold RetWy; rw [hq]
  exact ⟨t12, trivial, rfl, hw.pick (by repeat constructor)⟩
 ·refine kJ [(4, _), (5, _), (6, _), (7, _), (8, _)] ?_
  refine s2 ?_
  refine aCB (fun w hw => answered_no 41 #[.pointer (some ⟨b4, 0, none⟩), .pointer (some ⟨b5, 0, none⟩), .pointer (some ⟨b6, 0, none⟩), .pointer (some ⟨b7, 0, none⟩), .pointer (some ⟨b8, 0, none⟩)] a n w (fun W hW => q56_no Bk A c b4 b5 b6 b7 b8 ed fl0 fA0 fc0 hok x hxk W ((cellB b4 [.slice A Bk.length c] 51).st _ _ (fun b h => hW.block b ((hw.ok _ (by repeat constructor)).2 b h).2) (hw.ok (cellB b4 [.slice A Bk.length c] 51) (by repeat constructor)).1) ((cellB b5 [.int .i64 ed] 3).st _ _ (fun b h => hW.block b ((hw.ok _ (by repeat constructor)).2 b h).2) (hw.ok (cellB b5 [.int .i64 ed] 3) (by repeat constructor)).1) ((cellB b6 [.slice fA0 fl0.length fc0] 47).st _ _ (fun b h => hW.block b ((hw.ok _ (by repeat constructor)).2 b h).2) (hw.ok (cellB b6 [.slice fA0 fl0.length fc0] 47) (by repeat constructor)).1) ((cellB b7 [.string x] 9).st _ _ (fun b h => hW.block b ((hw.ok _ (by repeat constructor)).2 b h).2) (hw.ok (cellB b7 [.string x] 9) (by repeat constructor)).1) ((hbk.up hw.bel).up hW) ((hfl.up ES hw.bel).up ES hW) hq)) ?_
  refine s7 ?_
  refine kJ [(8, _), (9, _)] ?_
  refine s8 ?_
  refine JR_two rfl (rr_cell rfl Agg.h (by repeat constructor) (by rfl)) (rr_tmp rfl) ?_
  intro w' hw
  unfold RetWy; rw [hq]
  exact ⟨rfl, hw.bel⟩
end Go.Proofs.YtmcpnoailbmkkaaGreatDoor
/- The program: steps that are a proof. -/
namespace Go.Proofs
open Go.Shelf
def Tryz.cloneA_ren : Go.Shelf.Ren := ⟨fun | 5 => 96 | 7 => 148 | n => n, fun | 23 => 117 | 25 => 9 | 3 => 4 | 4 => 4 | 20 => 20 | n => n, fun | n => n⟩
theorem Tryz.cloneA : Go.Proofs.SlLaysW.n5 Tryz.prog Tryz.cloneA_ren := {
  mixed := by kernel_rfl
  f5 := ⟨Tryz.f96.name, by decide, Tryz.func96.trans (congrArg some (by kernel_rfl))⟩
  f7 := Tryz.func148.trans (congrArg some (by kernel_rfl))
  t4 := Tryz.underlying4
  a4 := Tryz.isAgg4
  z4 := Tryz.sizeOf4
  v4 := Tryz.zeroValue4
  t20 := Tryz.underlying20
  a20 := Tryz.isAgg20
  z20 := Tryz.sizeOf20
  v20 := Tryz.zeroValue20
  t23 := Tryz.underlying117
  a23 := Tryz.isAgg117
  z23 := Tryz.sizeOf117
  v23 := Tryz.zeroValue117 }
end Go.Proofs
namespace Go.Proofs.YtmcpnoailbmkkaaGreatDoor
open Go Go.RowKit Go.Proofs
theorem clone_any {H : Type} (k : TypeId) (R : Value → Option (DataW H × List MemPlace)) (b n : Nat) (D : DataW H) (w : World) (hown : w.ownsMap Tryz.prog k R b n D) : Calls Tryz.prog 96 #[.map (some b)] w fun e w' => e = .returned (.map (some w.heap.size)) ∧ w'.ownsMap Tryz.prog k R w.heap.size n D ∧ w'.ownsMap Tryz.prog k R b n D ∧ Below w.heap.size w w' := AnyW.maps_Clone_owns Tryz.cloneA k R b n D w hown
theorem Clone72 (b : Nat) (S : List ByteArray) (w : World) (hS : (setB Tryz.prog 9 kS okS b S).holds w) : Calls Tryz.prog 96 #[.map (some b)] w (Ret w (fun _ : Nat => True) (fun t => .map (some t)) (fun t => [setB Tryz.prog 9 kS okS t S])) := by
 obtain ⟨n, c, hn, D, h1, h2, h3⟩ := hS
 refine (clone_any _ _ b n D w h1).mono ?_
 rintro e w' ⟨rfl, h4, -, h5⟩
 exact ⟨w.heap.size, trivial, rfl, (Wd.start (bs w)).new (A := setB Tryz.prog 9 kS okS w.heap.size S) h5 ⟨n, c, hn, D, h4, h2, h3⟩ (fun k hk => by cases hk; exact ⟨Nat.le_refl _, h4.lt⟩)⟩
attribute [local irreducible] J JQ JL JA JD
def atV (r : Option Nat × List ByteArray) : Int := match r.1 with | some k => (k : Nat) | none => -1

set_option maxRecDepth 100000 in
set_option maxHeartbeats 4000000 in
theorem broken44 {Bk : List Cl} {BA : Option Addr} {bc : Nat} {top ed : Int} {s : RS} {wp bp hb gb rb lb : Nat} {S K0 : List ByteArray} (l : List Int) (lA : Option Addr) (lc : Nat) (w : World) (hB : BkW w Bk BA bc) (hrec : (recB wp bp hb gb rb ed s).holds w) (hbk : (bookB bp BA Bk.length bc lb top).holds w) (hheld : (setB Tryz.prog 9 kS okS hb S).holds w) (hgiv : (setB Tryz.prog 9 kS okS gb K0).holds w) (hK0 : K0.length ≤ 64) (hl : Arr 1 eI w (.slice lA l.length lc) l) (hl1 : l.length ≤ 100) (hin : l.all (inB Bk) = true) : Calls Tryz.prog 47 #[.pointer (some ⟨wp, 0, none⟩), .slice lA l.length lc] w (Ret w (fun _ : Nat => True) (fun t => .tuple #[.int .i64 (atV (prv Bk ed S l 0 K0)), .map (some t)]) (fun t => [setB Tryz.prog 9 kS okS t (prv Bk ed S l 0 K0).2])) := by
 obtain ⟨hBb, hBA⟩ := arr_partsC hB.row
 obtain ⟨hlb, hlA⟩ := arr_partsI hl
 refine J_enter (fun _ => False) (vs := [.pointer (some ⟨wp, 0, none⟩), .slice lA l.length lc]) (k := 75) (l := [(0, .pointer (some ⟨wp, 0, none⟩)), (1, .slice lA l.length lc)]) Tryz.func47 rfl rfl Tryz.ntmps47 rfl rfl (Wd.start _) ?_
 refine s6 ?_
 refine J_scope ?_
 refine s5 ?_
 refine aV (vOld rfl rfl (fun h => h) (cellB_get hrec rfl)) ?_
 refine aW (oR (fun w hw => Clone72 gb K0 w (setB_up hgiv hw.bel))) (fun kb _ => ?_)
 refine s4 ?_
 refine kJ [(0, _), (1, _), (6, _)] ?_
 refine s16 ?_
 refine xL (T := Nat × List ByteArray) (fun q => q.1 ≤ l.length ∧ (prv Bk ed S l 0 K0) = prv Bk ed S (l.drop q.1) q.1 q.2 ∧ q.2.length ≤ 64 + q.1) (fun q => [(0, .pointer (some ⟨wp, 0, none⟩)), (6, .map (some kb)), (7, .int .i64 (-1)), (20, .slice lA l.length lc), (21, .int .i64 (l.length : Nat)), (22, .int .i64 (q.1 : Nat))]) (fun q => [setB Tryz.prog 9 kS okS kb q.2]) (fun q => l.length - q.1) (0, K0) ⟨Nat.zero_le _, rfl, hK0⟩ ?_
 rintro ⟨k, K⟩ ⟨hk, hpr, hKl⟩
 dsimp only at hk hpr hKl ⊢
 refine s3 ?_
 refine JL_dec (fun h23 => ?_) (fun h23 => ?_)
 ·refine s9 ?_
  have hlty : k < l.length := by omega
  obtain ⟨bqy, pqy, rfl, hhl⟩ := hlA (by intro e; rw [e] at hlty; simp at hlty)
  obtain ⟨y, hy⟩ : ∃ y, l[k]'hlty = y := ⟨_, rfl⟩
  have hmy : y ∈ l := by rw [← hy]; exact List.getElem_mem _
  obtain ⟨i, hil, rfl⟩ := in_k hin hmy
  have hlt : i < Bk.length := hil
  obtain ⟨bB, pB, rfl, hhB⟩ := hBA (by intro e; subst e; simp at hlt)
  obtain ⟨⟨cn, cf, ct, ⟨fA, fn, fc, fl⟩, ⟨uA, un, uc, ul⟩, th⟩, hc⟩ : ∃ c, Bk[i]'hlt = c := ⟨_, rfl⟩
  have hcm : (⟨cn, cf, ct, ⟨fA, fn, fc, fl⟩, ⟨uA, un, uc, ul⟩, th⟩ : Cl) ∈ Bk := by rw [← hc]; exact List.getElem_mem _
  obtain ⟨hfs, hus, hfk, huk, hnk, htk⟩ := hB.cl _ hcm
  obtain rfl : fn = fl.length := dv_nc hfs
  obtain rfl : un = ul.length := dv_nc hus
  dsimp only [Dv.v] at hfs hus hfk huk hnk htk
  obtain ⟨hfb, hfA⟩ := arr_parts hfs
  obtain ⟨hub, huA⟩ := arr_parts hus
  refine s3 ?_
  refine aV (vHold rfl rfl (fun h => h) hhl hlty (by omega) (by rw [hy]; rfl)) ?_
  refine s5 ?_
  refine kJ [(0, _), (6, _), (8, _), (9, _), (20, _), (21, _), (22, _)] ?_
  refine s4 ?_
  refine aV (vOld rfl rfl (fun h => h) (cellB_get hrec rfl)) ?_
  refine s2 ?_
  refine aV (vOld rfl rfl (fun h => h) (cellB_get hbk rfl)) ?_
  refine s1 ?_
  refine aP (pIdxI (i) rfl rfl rfl) ?_
  refine aV (vHoldA (cs := [.string cn, .int .i64 cf, .int .i64 ct, .slice fA fl.length fc, .slice uA ul.length uc, .string th]) EC6 rfl rfl (fun h => h) hhB hlt (by rw [hc]; rfl)) ?_
  refine aW oA (fun b10 hb10 => ?_)
  refine s4 ?_
  refine kJ [(0, _), (6, _), (8, _), (10, _), (20, _), (21, _), (22, _)] ?_
  refine s7 ?_
  refine xD [0, 1, 2, 3, 4, 5] [0, 4] ?_
  refine s4 ?_
  refine dL rfl (vOld rfl rfl (fun h => h) (cellB_get hrec rfl)) ?_
  refine dCB rfl (fun w hw => stands73 ⟨cn, cf, ct, ⟨fA, fl.length, fc, fl⟩, ⟨uA, ul.length, uc, ul⟩, th⟩ ed w) ?_
  refine dDec (fun h43 => ?_) (fun h43 => ?_)
  ·refine dO [6] ?_
   refine s8 ?_
   refine kJ [(0, _), (6, _), (7, _), (10, _), (20, _), (21, _), (22, _)] ?_
   refine s8 ?_
   refine xL (T := Nat) (fun j => j ≤ fl.length ∧ (fl.take j).all (fun x => decide (x ∈ K)) = true) (fun j => [(0, .pointer (some ⟨wp, 0, none⟩)), (6, .map (some kb)), (7, .int .i64 (k : Nat)), (10, .pointer (some ⟨b10, 0, none⟩)), (20, .slice (some ⟨bqy, pqy, none⟩) l.length lc), (21, .int .i64 (l.length : Nat)), (22, .int .i64 (k : Nat)), (46, .slice fA fl.length fc), (47, .int .i64 (fl.length : Nat)), (48, .int .i64 (j : Nat))]) (fun j => [setB Tryz.prog 9 kS okS kb K, cellB b10 [.string cn, .int .i64 cf, .int .i64 ct, .slice fA fl.length fc, .slice uA ul.length uc, .string th] 112]) (fun j => fl.length - j) 0 ⟨Nat.zero_le _, rfl⟩ ?_
   rintro j ⟨hj, hall1⟩
   refine s3 ?_
   refine JL_dec (fun h49 => ?_) (fun h49 => ?_)
   ·refine s9 ?_
    have hltz : j < fl.length := by omega
    obtain ⟨bqz, pqz, rfl, hhf⟩ := hfA (by intro e; rw [e] at hltz; simp at hltz)
    obtain ⟨z, hz⟩ : ∃ y, fl[j]'hltz = y := ⟨_, rfl⟩
    have hmz : z ∈ fl := by rw [← hz]; exact List.getElem_mem _
    refine s2 ?_
    refine aV (vHold rfl rfl (fun h => h) hhf hltz (by omega) (by rw [hz]; rfl)) ?_
    refine s7 ?_
    refine aV (rv_lookS KS LBool z Und.h rfl rfl rfl (by repeat constructor) rfl (hfk z hmz)) ?_
    refine JL_dec (fun h54 => ?_) (fun h54 => ?_)
    ·refine s7 ?_
     refine kJ [(0, _), (6, _), (7, _), (10, _), (20, _), (21, _), (22, _), (46, _), (47, _), (48, _)] ?_
     refine s4 ?_
     have hn : (fl.take (j + 1)).all (fun x => decide (x ∈ K)) = true := by rw [List.take_succ_eq_append_getElem hltz, List.all_append, hz, hall1]; simp [h54]
     exact xR (j + 1) ⟨by omega, hn⟩ (by omega) (hl := ⟨rfl, rfl, rfl, rfl, rfl, rfl, rfl, rfl, rfl, (congrArg some (by go_num)), trivial⟩)
    ·refine s16 ?_
     refine kJ [(6, _), (7, _)] ?_
     refine s8 ?_
     refine JQ_ngR ?_
     refine JR_two rfl (rr_tmp rfl) (rr_tmp rfl) ?_
     intro w' hw
     have hno : okC ed S K ⟨cn, cf, ct, ⟨some ⟨bqz, pqz, none⟩, fl.length, fc, fl⟩, ⟨uA, ul.length, uc, ul⟩, th⟩ = false := by (have h0 : fl.all (fun x => decide (x ∈ K)) = false := List.all_eq_false.2 ⟨z, hmz, by simp [h54]⟩); unfold okC; dsimp only; rw [h0, Bool.and_false, Bool.false_and]
     have hr : (prv Bk ed S l 0 K0) = (some k, K) := by rw [hpr, prv_s hlty hlt hy hc, if_neg (by rw [hno]; decide)]
     rw [hr]; exact ⟨kb, trivial, rfl, hw.pick (by repeat constructor)⟩
   ·refine s11 ?_
    obtain rfl : j = fl.length := by omega
    rw [List.take_length] at hall1
    refine kJ [(0, _), (6, _), (7, _), (10, _), (20, _), (21, _), (22, _)] ?_
    refine s8 ?_
    refine xL (T := Nat) (fun j => j ≤ ul.length ∧ (ul.take j).all (fun x => !decide (x ∈ S)) = true) (fun j => [(0, .pointer (some ⟨wp, 0, none⟩)), (6, .map (some kb)), (7, .int .i64 (k : Nat)), (10, .pointer (some ⟨b10, 0, none⟩)), (20, .slice (some ⟨bqy, pqy, none⟩) l.length lc), (21, .int .i64 (l.length : Nat)), (22, .int .i64 (k : Nat)), (58, .slice uA ul.length uc), (59, .int .i64 (ul.length : Nat)), (60, .int .i64 (j : Nat))]) (fun j => [setB Tryz.prog 9 kS okS kb K, cellB b10 [.string cn, .int .i64 cf, .int .i64 ct, .slice fA fl.length fc, .slice uA ul.length uc, .string th] 112]) (fun j => ul.length - j) 0 ⟨Nat.zero_le _, rfl⟩ ?_
    rintro j ⟨hj, hall2⟩
    refine s3 ?_
    refine JL_dec (fun h61 => ?_) (fun h61 => ?_)
    ·refine s9 ?_
     have hltz : j < ul.length := by omega
     obtain ⟨bqz, pqz, rfl, hhu⟩ := huA (by intro e; rw [e] at hltz; simp at hltz)
     obtain ⟨z, hz⟩ : ∃ y, ul[j]'hltz = y := ⟨_, rfl⟩
     have hmz : z ∈ ul := by rw [← hz]; exact List.getElem_mem _
     refine s2 ?_
     refine aV (vHold rfl rfl (fun h => h) hhu hltz (by omega) (by rw [hz]; rfl)) ?_
     refine s8 ?_
     refine aV (vOld rfl rfl (fun h => h) (cellB_get hrec rfl)) ?_
     refine s1 ?_
     refine aV (rv_lookSO KS LBool z Und.h rfl rfl rfl (fun h => h) hheld rfl (huk z hmz)) ?_
     refine JL_dec (fun h69 => ?_) (fun h69 => ?_)
     ·refine s15 ?_
      refine kJ [(6, _), (7, _)] ?_
      refine s8 ?_
      refine JQ_ngR ?_
      refine JR_two rfl (rr_tmp rfl) (rr_tmp rfl) ?_
      intro w' hw
      have hno : okC ed S K ⟨cn, cf, ct, ⟨fA, fl.length, fc, fl⟩, ⟨some ⟨bqz, pqz, none⟩, ul.length, uc, ul⟩, th⟩ = false := by (have h0 : ul.all (fun x => !decide (x ∈ S)) = false := List.all_eq_false.2 ⟨z, hmz, by simp [h69]⟩); unfold okC; dsimp only; rw [h0, Bool.and_false]
      have hr : (prv Bk ed S l 0 K0) = (some k, K) := by rw [hpr, prv_s hlty hlt hy hc, if_neg (by rw [hno]; decide)]
      rw [hr]; exact ⟨kb, trivial, rfl, hw.pick (by repeat constructor)⟩
     ·refine s6 ?_
      refine kJ [(0, _), (6, _), (7, _), (10, _), (20, _), (21, _), (22, _), (58, _), (59, _), (60, _)] ?_
      refine s4 ?_
      have hn : (ul.take (j + 1)).all (fun x => !decide (x ∈ S)) = true := by rw [List.take_succ_eq_append_getElem hltz, List.all_append, hz, hall2]; simp [h69]
      exact xR (j + 1) ⟨by omega, hn⟩ (by omega) (hl := ⟨rfl, rfl, rfl, rfl, rfl, rfl, rfl, rfl, rfl, (congrArg some (by go_num)), trivial⟩)
    ·refine s9 ?_
     refine kJ [(0, _), (6, _), (10, _), (20, _), (21, _), (22, _)] ?_
     refine s4 ?_
     refine aW0 (ow_putS KS LBool th Und.h rfl rfl rfl rfl rfl rfl rfl (by repeat constructor) htk (by omega)) ?_
     refine s4 ?_
     refine kJ [(0, _), (6, _), (7, _), (20, _), (21, _), (22, _)] ?_
     refine s4 ?_
     obtain rfl : j = ul.length := by omega
     rw [List.take_length] at hall2
     have hok : okC ed S K ⟨cn, cf, ct, ⟨fA, fl.length, fc, fl⟩, ⟨uA, ul.length, uc, ul⟩, th⟩ = true := by unfold okC; rw [decide_eq_true h43, hall1, hall2]; rfl
     exact xR (k + 1, th :: K) ⟨by dsimp only; omega, by dsimp only; rw [hpr, prv_s hlty hlt hy hc, if_pos hok], by dsimp only [List.length_cons]; omega⟩ (by dsimp only; omega) (hl := ⟨rfl, rfl, rfl, rfl, rfl, (congrArg some (by go_num)), trivial⟩)
  ·refine dO [6] ?_
   refine s12 ?_
   refine kJ [(6, _), (7, _)] ?_
   refine s8 ?_
   refine JQ_ngR ?_
   refine JR_two rfl (rr_tmp rfl) (rr_tmp rfl) ?_
   intro w' hw
   have hno : okC ed S K ⟨cn, cf, ct, ⟨fA, fl.length, fc, fl⟩, ⟨uA, ul.length, uc, ul⟩, th⟩ = false := by unfold okC; rw [decide_eq_false h43]; rfl
   have hr : (prv Bk ed S l 0 K0) = (some k, K) := by rw [hpr, prv_s hlty hlt hy hc, if_neg (by rw [hno]; decide)]
   rw [hr]; exact ⟨kb, trivial, rfl, hw.pick (by repeat constructor)⟩
 ·refine s10 ?_
  refine kJ [(6, _), (7, _)] ?_
  refine s8 ?_
  refine JQ_ngR ?_
  refine JR_two rfl (rr_tmp rfl) (rr_tmp rfl) ?_
  intro w' hw
  obtain rfl : k = l.length := by omega
  have hr : (prv Bk ed S l 0 K0) = (none, K) := by rw [hpr, List.drop_length]; rfl
  rw [hr]; exact ⟨kb, trivial, rfl, hw.pick (by repeat constructor)⟩
end Go.Proofs.YtmcpnoailbmkkaaGreatDoor
/- The program: Proves. -/
namespace Go.Proofs.YtmcpnoailbmkkaaGreatDoor
open Go Go.RowKit Go.Proofs
attribute [local irreducible] J JQ JL JA JD

theorem prv_cs {Bk : List Cl} {ed : Int} {fl0 : List ByteArray} {x : ByteArray} {l : List Int} {a n : Int} (h : prvQ Bk ed fl0 x l = some (a, n)) : (∃ a' n', bndF Bk = some (a', n') ∧ a' = a ∧ n' = n) ∨ (bndF Bk = none ∧ ¬ askB8 ed fl0 = true ∧ a = -1 ∧ n = 2) ∨ (bndF Bk = none ∧ askB8 ed fl0 = true ∧ hldQ Bk ed fl0 = none ∧ nmB8 x = false ∧ a = -1 ∧ n = 2) ∨ (bndF Bk = none ∧ askB8 ed fl0 = true ∧ hldQ Bk ed fl0 = none ∧ nmB8 x = true ∧ l.all (inB Bk) = false ∧ a = -1 ∧ n = 4) := by
 unfold prvQ at h
 obtain hk | ⟨a', n', hk⟩ := opt2 (hldQ Bk ed fl0)
 ·obtain ⟨hb, hak⟩ := hld_parts hk
  rw [hk] at h; dsimp only at h
  cases hx : nmB8 x with
  | false => rw [hx, if_neg (by decide)] at h; cases h; exact .inr (.inr (.inl ⟨hb, hak, hk, rfl, rfl, rfl⟩))
  | true =>
   rw [hx, if_pos rfl] at h
   cases hi : l.all (inB Bk) with
   | false => rw [hi, if_neg (by decide)] at h; cases h; exact .inr (.inr (.inr ⟨hb, hak, hk, rfl, rfl, rfl, rfl⟩))
   | true => rw [hi, if_pos rfl] at h; cases h
 ·rw [hk] at h; cases h
  obtain hb | ⟨a', n', hb⟩ := opt2 (bndF Bk)
  ·obtain ⟨h1, h2⟩ := hld_q2 hb hk; exact .inr (.inl ⟨hb, h2, h1⟩)
  ·obtain ⟨rfl, rfl⟩ := hld_q1 hb hk; exact .inl ⟨_, _, hb, rfl, rfl⟩
theorem prv_hq {Bk : List Cl} {ed : Int} {fl0 : List ByteArray} {x : ByteArray} {l : List Int} (h : prvQ Bk ed fl0 x l = none) : hldQ Bk ed fl0 = none ∧ nmB8 x = true ∧ l.all (inB Bk) = true := by
 unfold prvQ at h
 cases hb : hldQ Bk ed fl0 with
 | some r => rw [hb] at h; cases h
 | none =>
  rw [hb] at h; dsimp only at h
  split at h
  ·rename_i h1
   split at h
   ·rename_i h2; exact ⟨rfl, h1, h2⟩
   ·cases h
  ·cases h
theorem ix_no {Bk : List Cl} {BA : Option Addr} {bc lb bp : Nat} {top : Int} {l : List Int} {lA : Option Addr} {lc : Nat} {w : World} (hbk : (bookB bp BA Bk.length bc lb top).holds w) (hBl : Bk.length ≤ 64) (hl : Arr 1 eI w (.slice lA l.length lc) l) (h : l.all (inB Bk) = false) : Calls Tryz.prog 46 #[.pointer (some ⟨bp, 0, none⟩), .slice lA l.length lc] w (Fails (-1) 4 w) :=
 (index43 Bk BA bc lb bp top l lA lc w hbk hBl hl).mono (fun _ _ h' => by unfold RetIx at h'; rwa [if_neg (by rw [h]; decide)] at h')
theorem ix_yes {Bk : List Cl} {BA : Option Addr} {bc lb bp : Nat} {top : Int} {l : List Int} {lA : Option Addr} {lc : Nat} {w : World} (hbk : (bookB bp BA Bk.length bc lb top).holds w) (hBl : Bk.length ≤ 64) (hl : Arr 1 eI w (.slice lA l.length lc) l) (h : l.all (inB Bk) = true) : Calls Tryz.prog 46 #[.pointer (some ⟨bp, 0, none⟩), .slice lA l.length lc] w (Back (.tuple #[]) w) :=
 (index43 Bk BA bc lb bp top l lA lc w hbk hBl hl).mono (fun _ _ h' => by unfold RetIx at h'; rwa [if_pos h] at h')
set_option maxRecDepth 100000 in
set_option maxHeartbeats 4000000 in
theorem q38_no (Bk : List Cl) (A : Option Addr) (c b5 b6 b7 b9 b8 b10 b11 : Nat) (ed : Int) (fl0 : List ByteArray) (fA0 : Option Addr) (fc0 : Nat) (hok : ∀ s ∈ fl0, okS s) (x : ByteArray) (hxk : okS x) (l : List Int) (lA : Option Addr) (lc : Nat) (w : World) (hl : (cellB b5 [.slice A Bk.length c] 51).holds w) (he : (cellB b6 [.int .i64 ed] 3).holds w) (hf : (cellB b7 [.slice fA0 fl0.length fc0] 47).holds w) (hx : (cellB b9 [.string x] 9).holds w) (hs : (cellB b8 [.slice lA l.length lc] 34).holds w) (hbk : BkW w Bk A c) (hfl : Arr 1 eS w (.slice fA0 fl0.length fc0) fl0) (hst : Arr 1 eI w (.slice lA l.length lc) l) {a n : Int} (hq : prvQ Bk ed fl0 x l = some (a, n)) : Calls Tryz.prog 45 #[.pointer (some ⟨b5, 0, none⟩), .pointer (some ⟨b6, 0, none⟩), .pointer (some ⟨b7, 0, none⟩), .pointer (some ⟨b9, 0, none⟩), .pointer (some ⟨b8, 0, none⟩), .pointer (some ⟨b10, 0, none⟩), .pointer (some ⟨b11, 0, none⟩)] w (Fails a n w) := by
 refine J_enter (fun _ => False) (vs := [.pointer (some ⟨b5, 0, none⟩), .pointer (some ⟨b6, 0, none⟩), .pointer (some ⟨b7, 0, none⟩), .pointer (some ⟨b9, 0, none⟩), .pointer (some ⟨b8, 0, none⟩), .pointer (some ⟨b10, 0, none⟩), .pointer (some ⟨b11, 0, none⟩)]) (k := 31) (l := [(0, .pointer (some ⟨b5, 0, none⟩)), (1, .pointer (some ⟨b6, 0, none⟩)), (2, .pointer (some ⟨b7, 0, none⟩)), (3, .pointer (some ⟨b9, 0, none⟩)), (4, .pointer (some ⟨b8, 0, none⟩)), (5, .pointer (some ⟨b10, 0, none⟩)), (6, .pointer (some ⟨b11, 0, none⟩))]) Tryz.func45 rfl rfl Tryz.ntmps45 rfl rfl (Wd.start _) ?_
 refine s1 ?_
 rcases prv_cs hq with ⟨a', n', hb, rfl, rfl⟩ | ⟨hb, hnq, rfl, rfl⟩ | ⟨hb, hak, hk, hnm, rfl, rfl⟩ | ⟨hb, hak, hk, hnm, hni, rfl, rfl⟩
 ·refine xD [0, 2, 3, 1] [0, 2, 3] ?_
  refine dL rfl (vOld rfl rfl (fun h => h) (cellB_get hl rfl)) ?_
  refine dL rfl (vOld rfl rfl (fun h => h) (cellB_get he rfl)) ?_
  refine dL rfl (vOld rfl rfl (fun h => h) (cellB_get hf rfl)) ?_
  refine dPan rfl (ecF rfl rfl) (fun w hw => bound_no (hbk.up hw.bel) hb) ?_
  refine s1 ?_
  refine JR_panic ?_
  intro w' hw
  exact ⟨rfl, hw.bel⟩
 ·refine xD [0, 2, 3, 1, 4] [0, 2, 3] ?_
  refine dL rfl (vOld rfl rfl (fun h => h) (cellB_get hl rfl)) ?_
  refine dL rfl (vOld rfl rfl (fun h => h) (cellB_get he rfl)) ?_
  refine dL rfl (vOld rfl rfl (fun h => h) (cellB_get hf rfl)) ?_
  refine dW rfl (oR (fun w hw => bound_yes (hbk.up hw.bel) hb)) (fun t11 ht11 => ?_)
  obtain ⟨bp, lb, lv, top⟩ := t11
  obtain ⟨hlv, hin, htop, hge⟩ := ht11
  dsimp only [BdG, List.cons_append, List.nil_append] at hlv hin htop hge ⊢
  obtain ⟨tp, rfl⟩ : ∃ k : Nat, top = k := ⟨top.toNat, by omega⟩
  have h64 := bnd_64 hb
  refine dPan rfl (ecF rfl rfl) (fun w hw => made_no (hw.ok (bookB bp A Bk.length c lb (tp : Nat)) (by repeat constructor)).1 (hw.ok (mapK Tryz.prog 9 3 kS okS dI lb (4096) lv) (by repeat constructor)).1 (hbk.up hw.bel) h64 (by omega) (hfl.up ES hw.bel) hok hnq) ?_
  refine s1 ?_
  refine JR_panic ?_
  intro w' hw
  exact ⟨rfl, hw.bel⟩
 ·refine xD [0, 2, 3, 1, 4, 5] [0, 2, 3] ?_
  refine dL rfl (vOld rfl rfl (fun h => h) (cellB_get hl rfl)) ?_
  refine dL rfl (vOld rfl rfl (fun h => h) (cellB_get he rfl)) ?_
  refine dL rfl (vOld rfl rfl (fun h => h) (cellB_get hf rfl)) ?_
  refine dW rfl (oR (fun w hw => bound_yes (hbk.up hw.bel) hb)) (fun t11 ht11 => ?_)
  obtain ⟨bp, lb, lv, top⟩ := t11
  obtain ⟨hlv, hin, htop, hge⟩ := ht11
  dsimp only [BdG, List.cons_append, List.nil_append] at hlv hin htop hge ⊢
  obtain ⟨tp, rfl⟩ : ∃ k : Nat, top = k := ⟨top.toNat, by omega⟩
  have h64 := bnd_64 hb
  refine dW rfl (oR (fun w hw => made_yes (hw.ok (bookB bp A Bk.length c lb (tp : Nat)) (by repeat constructor)).1 (hw.ok (mapK Tryz.prog 9 3 kS okS dI lb (4096) lv) (by repeat constructor)).1 (hbk.up hw.bel) h64 (by omega) (hfl.up ES hw.bel) hok hak)) (fun t14 ht14 => ?_)
  obtain ⟨wp, hb', gb, rb, t⟩ := t14
  obtain ⟨hm, hmn, hmo⟩ := ht14
  obtain ⟨m, A0, c0⟩ := t
  dsimp only [MdG, List.cons_append, List.nil_append] at hm hmn hmo ⊢
  rw [hld_of hlv (by omega) (fun x hx => hge _ (hbk.cl x hx).tk)] at hm
  have hmk := hld_ok (ed := ed) (fun x hx => (hbk.cl x hx).tk) hok
  subst hm
  refine s4 ?_
  refine kJ [(3, _), (4, _), (5, _), (6, _), (7, _)] ?_
  refine s1 ?_
  refine aV (vOld rfl rfl (fun h => h) (cellB_get hx rfl)) ?_
  refine aCB (fun w hw => named42 x w hxk) ?_
  refine aBoolF ?_ hnm
  refine aPan (ecF rfl rfl) (fun w hw => need_no _ _ w) ?_
  refine s1 ?_
  refine JR_panic ?_
  intro w' hw
  exact ⟨rfl, hw.bel⟩
 ·refine xD [0, 2, 3, 1, 4, 5] [0, 2, 3] ?_
  refine dL rfl (vOld rfl rfl (fun h => h) (cellB_get hl rfl)) ?_
  refine dL rfl (vOld rfl rfl (fun h => h) (cellB_get he rfl)) ?_
  refine dL rfl (vOld rfl rfl (fun h => h) (cellB_get hf rfl)) ?_
  refine dW rfl (oR (fun w hw => bound_yes (hbk.up hw.bel) hb)) (fun t11 ht11 => ?_)
  obtain ⟨bp, lb, lv, top⟩ := t11
  obtain ⟨hlv, hin, htop, hge⟩ := ht11
  dsimp only [BdG, List.cons_append, List.nil_append] at hlv hin htop hge ⊢
  obtain ⟨tp, rfl⟩ : ∃ k : Nat, top = k := ⟨top.toNat, by omega⟩
  have h64 := bnd_64 hb
  refine dW rfl (oR (fun w hw => made_yes (hw.ok (bookB bp A Bk.length c lb (tp : Nat)) (by repeat constructor)).1 (hw.ok (mapK Tryz.prog 9 3 kS okS dI lb (4096) lv) (by repeat constructor)).1 (hbk.up hw.bel) h64 (by omega) (hfl.up ES hw.bel) hok hak)) (fun t14 ht14 => ?_)
  obtain ⟨wp, hb', gb, rb, t⟩ := t14
  obtain ⟨hm, hmn, hmo⟩ := ht14
  obtain ⟨m, A0, c0⟩ := t
  dsimp only [MdG, List.cons_append, List.nil_append] at hm hmn hmo ⊢
  rw [hld_of hlv (by omega) (fun x hx => hge _ (hbk.cl x hx).tk)] at hm
  have hmk := hld_ok (ed := ed) (fun x hx => (hbk.cl x hx).tk) hok
  subst hm
  refine s4 ?_
  refine kJ [(3, _), (4, _), (5, _), (6, _), (7, _)] ?_
  refine s1 ?_
  refine aV (vOld rfl rfl (fun h => h) (cellB_get hx rfl)) ?_
  refine aCB (fun w hw => named42 x w hxk) ?_
  refine aBoolT ?_ hnm
  refine aCB (fun w hw => need_yes _ _ w) ?_
  refine s3 ?_
  refine xD [0, 1, 2, 3, 4, 5] [3, 4] ?_
  refine s4 ?_
  refine dL rfl (vOld rfl rfl (fun h => h) (cellB_get hs rfl)) ?_
  refine dPan rfl (ecF rfl rfl) (fun w hw => ix_no (hw.ok (bookB bp A Bk.length c lb (tp : Nat)) (by repeat constructor)).1 h64 (hst.up EI hw.bel) hni) ?_
  refine s1 ?_
  refine JR_panic ?_
  intro w' hw
  exact ⟨rfl, hw.bel⟩
def isV (x : ByteArray) (r : Option Nat × List ByteArray) : Bool := match r.1 with | some _ => false | none => decide (x ∈ r.2)
theorem prvV_eq (x : ByteArray) (r : Option Nat × List ByteArray) : prvV x r = .tuple #[.bool (isV x r), .int .i64 (atV r), .int .i64 0] := by
 obtain ⟨_ | k, K⟩ := r <;> rfl
set_option maxRecDepth 100000 in
set_option maxHeartbeats 4000000 in
theorem q38_yes (Bk : List Cl) (A : Option Addr) (c b5 b6 b7 b9 b8 b10 b11 : Nat) (ed : Int) (fl0 : List ByteArray) (fA0 : Option Addr) (fc0 : Nat) (hok : ∀ s ∈ fl0, okS s) (x : ByteArray) (hxk : okS x) (l : List Int) (lA : Option Addr) (lc : Nat) (hl1 : l.length ≤ 100) (w : World) (hl : (cellB b5 [.slice A Bk.length c] 51).holds w) (he : (cellB b6 [.int .i64 ed] 3).holds w) (hf : (cellB b7 [.slice fA0 fl0.length fc0] 47).holds w) (hx : (cellB b9 [.string x] 9).holds w) (hs : (cellB b8 [.slice lA l.length lc] 34).holds w) (w0 : World) (hbk : BkW w0 Bk A c) (hfl : Arr 1 eS w0 (.slice fA0 fl0.length fc0) fl0) (hst : Arr 1 eI w0 (.slice lA l.length lc) l) (hb0 : Below w0.heap.size w0 w) (hA : (unI (cellB b10 [.bool false] 4) (cellB b11 [.int .i64 0] 3)).holds w) (hAf : ∀ b, (unI (cellB b10 [.bool false] 4) (cellB b11 [.int .i64 0] 3)).foot b → b < w.heap.size) (hA0 : ∀ b, (unI (cellB b10 [.bool false] 4) (cellB b11 [.int .i64 0] 3)).foot b → w0.heap.size ≤ b) (hn5 : ¬ (unI (cellB b10 [.bool false] 4) (cellB b11 [.int .i64 0] 3)).foot b5) (hn6 : ¬ (unI (cellB b10 [.bool false] 4) (cellB b11 [.int .i64 0] 3)).foot b6) (hn7 : ¬ (unI (cellB b10 [.bool false] 4) (cellB b11 [.int .i64 0] 3)).foot b7) (hn9 : ¬ (unI (cellB b10 [.bool false] 4) (cellB b11 [.int .i64 0] 3)).foot b9) (hn8 : ¬ (unI (cellB b10 [.bool false] 4) (cellB b11 [.int .i64 0] 3)).foot b8) (hq : prvQ Bk ed fl0 x l = none) : Calls Tryz.prog 45 #[.pointer (some ⟨b5, 0, none⟩), .pointer (some ⟨b6, 0, none⟩), .pointer (some ⟨b7, 0, none⟩), .pointer (some ⟨b9, 0, none⟩), .pointer (some ⟨b8, 0, none⟩), .pointer (some ⟨b10, 0, none⟩), .pointer (some ⟨b11, 0, none⟩)] w (RetM (unI (cellB b10 [.bool false] 4) (cellB b11 [.int .i64 0] 3)) (fun _ : Unit => True) (fun _ => .tuple #[]) (fun _ => unI (cellB b10 [.bool (isV x (prv Bk ed (hldM Bk ed fl0).S l 0 fl0.reverse))] 4) (cellB b11 [.int .i64 (atV (prv Bk ed (hldM Bk ed fl0).S l 0 fl0.reverse))] 3)) w) := by
 obtain ⟨hk, hnm, hni⟩ := prv_hq hq
 obtain ⟨hb, hak⟩ := hld_parts hk
 refine J_start (B := ⟨w, (unI (cellB b10 [.bool false] 4) (cellB b11 [.int .i64 0] 3)).foot, none, []⟩) rfl rfl (vs := [.pointer (some ⟨b5, 0, none⟩), .pointer (some ⟨b6, 0, none⟩), .pointer (some ⟨b7, 0, none⟩), .pointer (some ⟨b9, 0, none⟩), .pointer (some ⟨b8, 0, none⟩), .pointer (some ⟨b10, 0, none⟩), .pointer (some ⟨b11, 0, none⟩)]) (k := 31) (l := [(0, .pointer (some ⟨b5, 0, none⟩)), (1, .pointer (some ⟨b6, 0, none⟩)), (2, .pointer (some ⟨b7, 0, none⟩)), (3, .pointer (some ⟨b9, 0, none⟩)), (4, .pointer (some ⟨b8, 0, none⟩)), (5, .pointer (some ⟨b10, 0, none⟩)), (6, .pointer (some ⟨b11, 0, none⟩))]) Tryz.func45 rfl rfl Tryz.ntmps45 rfl rfl (Wd.startM hA hAf) ?_
 refine s1 ?_
 refine J_split ?_
 refine xD [0, 2, 3, 1, 4, 5] [0, 2, 3] ?_
 refine dL rfl (vOld rfl rfl hn5 (cellB_get hl rfl)) ?_
 refine dL rfl (vOld rfl rfl hn6 (cellB_get he rfl)) ?_
 refine dL rfl (vOld rfl rfl hn7 (cellB_get hf rfl)) ?_
 refine dW rfl (oR (fun w hw => bound_yes (hbk.up (Wd.belO hw hb0 hA0)) hb)) (fun t11 ht11 => ?_)
 obtain ⟨bp, lb, lv, top⟩ := t11
 obtain ⟨hlv, hin, htop, hge⟩ := ht11
 dsimp only [BdG, List.cons_append, List.nil_append] at hlv hin htop hge ⊢
 obtain ⟨tp, rfl⟩ : ∃ k : Nat, top = k := ⟨top.toNat, by omega⟩
 have h64 := bnd_64 hb
 refine dW rfl (oR (fun w hw => made_yes (hw.ok (bookB bp A Bk.length c lb (tp : Nat)) (by repeat constructor)).1 (hw.ok (mapK Tryz.prog 9 3 kS okS dI lb (4096) lv) (by repeat constructor)).1 (hbk.up (Wd.belO hw hb0 hA0)) h64 (by omega) (hfl.up ES (Wd.belO hw hb0 hA0)) hok hak)) (fun t14 ht14 => ?_)
 obtain ⟨wp, hb', gb, rb, t⟩ := t14
 obtain ⟨hm, hmn, hmo⟩ := ht14
 obtain ⟨m, A0, c0⟩ := t
 dsimp only [MdG, List.cons_append, List.nil_append] at hm hmn hmo ⊢
 rw [hld_of hlv (by omega) (fun x hx => hge _ (hbk.cl x hx).tk)] at hm
 have hmk := hld_ok (ed := ed) (fun x hx => (hbk.cl x hx).tk) hok
 subst hm
 refine s4 ?_
 refine kJ [(3, _), (4, _), (5, _), (6, _), (7, _)] ?_
 refine s1 ?_
 refine aV (vOld rfl rfl hn9 (cellB_get hx rfl)) ?_
 refine aCB (fun w hw => named42 x w hxk) ?_
 refine aBoolT ?_ hnm
 refine aCB (fun w hw => need_yes _ _ w) ?_
 refine s3 ?_
 refine xD [0, 1, 2, 3, 4, 5] [3, 4] ?_
 refine s4 ?_
 refine dL rfl (vOld rfl rfl hn8 (cellB_get hs rfl)) ?_
 refine dCB rfl (fun w hw => ix_yes (hw.ok (bookB bp A Bk.length c lb (tp : Nat)) (by repeat constructor)).1 h64 (hst.up EI (Wd.belO hw hb0 hA0)) hni) ?_
 refine s3 ?_
 refine kJ [(3, _), (4, _), (5, _), (6, _), (7, _)] ?_
 refine s2 ?_
 refine aV (vOld rfl rfl hn8 (cellB_get hs rfl)) ?_
 refine aW (oR (fun w hw => broken44 (bc := c) (BA := A) (top := (tp : Nat)) (lb := lb) (s := ⟨(hldM Bk ed fl0), A0, c0⟩) (bp := bp) (hb := hb') (gb := gb) (rb := rb) (S := (hldM Bk ed fl0).S) (K0 := fl0.reverse) l _ _ w (hbk.up (Wd.belO hw hb0 hA0)) (hw.ok (recB wp bp hb' gb rb ed ⟨(hldM Bk ed fl0), A0, c0⟩) (by repeat constructor)).1 (hw.ok (bookB bp A Bk.length c lb (tp : Nat)) (by repeat constructor)).1 (hw.ok (setB Tryz.prog 9 kS okS hb' (hldM Bk ed fl0).S) (by repeat constructor)).1 (hw.ok (setB Tryz.prog 9 kS okS gb fl0.reverse) (by repeat constructor)).1 (by rw [List.length_reverse]; exact ask_64 hak) (hst.up EI (Wd.belO hw hb0 hA0)) hl1 hni)) (fun kb _ => ?_)
 refine s7 ?_
 obtain ⟨ro, K, hr⟩ : ∃ a b, (prv Bk ed (hldM Bk ed fl0).S l 0 fl0.reverse) = (a, b) := ⟨_, _, rfl⟩
 rw [hr]
 rcases ro with _ | k
 ·rw [show atV (none, K) = -1 from rfl]
  dsimp only
  refine kJ [(3, _), (5, _), (6, _), (8, _), (9, _)] ?_
  refine s3 ?_
  refine aDecT ?_ (by decide)
  refine s2 ?_
  refine aV (vOld rfl rfl hn9 (cellB_get hx rfl)) ?_
  refine aV (rv_lookS KS LBool x Und.h rfl rfl rfl (by repeat constructor) rfl hxk) ?_
  refine s5 ?_
  refine JR_end rfl ?_
  intro w' hw
  exact ⟨(), trivial, rfl, Wd.unite (hw.pick (by repeat constructor)) rfl rfl⟩
 ·rw [show atV (some k, K) = ((k : Nat) : Int) from rfl]
  dsimp only
  refine kJ [(3, _), (5, _), (6, _), (8, _), (9, _)] ?_
  refine s3 ?_
  refine aDecF ?_
  refine s9 ?_
  refine JR_end rfl ?_
  intro w' hw
  exact ⟨(), trivial, rfl, Wd.unite (hw.pick (by repeat constructor)) rfl rfl⟩
theorem prv_ne {Bk : List Cl} {ed : Int} {fl0 : List ByteArray} {x : ByteArray} {l : List Int} {a n : Int} (h : prvQ Bk ed fl0 x l = some (a, n)) : n ≠ 0 := by
 unfold prvQ at h
 obtain hk | ⟨a', n', hk⟩ := opt2 (hldQ Bk ed fl0)
 ·rw [hk] at h; dsimp only at h
  split at h
  ·split at h <;> cases h; decide
  ·cases h; decide
 ·rw [hk] at h; cases h; exact hld_ne hk
set_option maxRecDepth 100000 in
set_option maxHeartbeats 4000000 in
theorem Proves12 (Bk : List Cl) (A : Option Addr) (c : Nat) (ed : Int) (fl0 : List ByteArray) (fA0 : Option Addr) (fc0 : Nat) (l : List Int) (lA : Option Addr) (lc : Nat) (x : ByteArray) (hok : ∀ s ∈ fl0, okS s) (hxk : okS x) (w : World) (hbk : BkW w Bk A c) (hfl : Arr 1 eS w (.slice fA0 fl0.length fc0) fl0) (hst : Arr 1 eI w (.slice lA l.length lc) l) (hl1 : l.length ≤ 100) : Calls Tryz.prog 16 #[.slice A Bk.length c, .int .i64 ed, .slice fA0 fl0.length fc0, .slice lA l.length lc, .string x] w (Back (prvR Bk ed fl0 x l) w) := by
 refine J_enter (fun _ => False) (vs := [.slice A Bk.length c, .int .i64 ed, .slice fA0 fl0.length fc0, .slice lA l.length lc, .string x]) (k := 18) (l := [(0, .slice A Bk.length c), (1, .int .i64 ed), (2, .slice fA0 fl0.length fc0), (3, .slice lA l.length lc), (4, .string x)]) Tryz.func16 rfl rfl Tryz.ntmps16 rfl rfl (Wd.start _) ?_
 refine s2 ?_
 refine aW (oX [_]) (fun b5 hb5 => ?_)
 refine aW (oX [_]) (fun b6 hb6 => ?_)
 refine aW (oX [_]) (fun b7 hb7 => ?_)
 refine aW (oX [_]) (fun b8 hb8 => ?_)
 refine aW (oX [_]) (fun b9 hb9 => ?_)
 refine aW oA (fun b10 hb10 => ?_)
 refine aW oA (fun b11 hb11 => ?_)
 refine s4 ?_
 obtain hq | ⟨a, n, hq⟩ := opt2 (prvQ Bk ed fl0 x l)
 ·refine kJ [(5, _), (6, _), (7, _), (8, _), (9, _), (10, _), (11, _)] ?_
  refine s2 ?_
  refine JL_unite (cellB b11 [.int .i64 0] 3) (cellB b10 [.bool false] 4) ?_
  refine aW (oM (fun w hw => answered_yes 45 #[.pointer (some ⟨b5, 0, none⟩), .pointer (some ⟨b6, 0, none⟩), .pointer (some ⟨b7, 0, none⟩), .pointer (some ⟨b9, 0, none⟩), .pointer (some ⟨b8, 0, none⟩), .pointer (some ⟨b10, 0, none⟩), .pointer (some ⟨b11, 0, none⟩)] (unI (cellB b10 [.bool false] 4) (cellB b11 [.int .i64 0] 3)) (fun _ : Unit => True) (fun _ => unI (cellB b10 [.bool (isV x (prv Bk ed (hldM Bk ed fl0).S l 0 fl0.reverse))] 4) (cellB b11 [.int .i64 (atV (prv Bk ed (hldM Bk ed fl0).S l 0 fl0.reverse))] 3)) w (hw.ok (unI (cellB b10 [.bool false] 4) (cellB b11 [.int .i64 0] 3)) (by repeat constructor)).1 (hw.newA (by repeat constructor) rfl).2 rfl (fun _ => rfl) (fun W hW => q38_yes Bk A c b5 b6 b7 b9 b8 b10 b11 ed fl0 fA0 fc0 hok x hxk l lA lc hl1 W (hw.keepO (C := cellB b5 [.slice A Bk.length c] 51) hW (by repeat constructor) rfl).1 (hw.keepO (C := cellB b6 [.int .i64 ed] 3) hW (by repeat constructor) rfl).1 (hw.keepO (C := cellB b7 [.slice fA0 fl0.length fc0] 47) hW (by repeat constructor) rfl).1 (hw.keepO (C := cellB b9 [.string x] 9) hW (by repeat constructor) rfl).1 (hw.keepO (C := cellB b8 [.slice lA l.length lc] 34) hW (by repeat constructor) rfl).1 _ hbk hfl hst (hw.belM (A := unI (cellB b10 [.bool false] 4) (cellB b11 [.int .i64 0] 3)) (by repeat constructor) rfl hW) (hW.ok (unI (cellB b10 [.bool false] 4) (cellB b11 [.int .i64 0] 3)) (by repeat constructor)).1 (fun b hb => ((hW.ok (unI (cellB b10 [.bool false] 4) (cellB b11 [.int .i64 0] 3)) (by repeat constructor)).2 b hb).2) (hw.newA (by repeat constructor) rfl).1 ((hw.keepO (C := cellB b5 [.slice A Bk.length c] 51) hW (by repeat constructor) rfl).2 b5 rfl) ((hw.keepO (C := cellB b6 [.int .i64 ed] 3) hW (by repeat constructor) rfl).2 b6 rfl) ((hw.keepO (C := cellB b7 [.slice fA0 fl0.length fc0] 47) hW (by repeat constructor) rfl).2 b7 rfl) ((hw.keepO (C := cellB b9 [.string x] 9) hW (by repeat constructor) rfl).2 b9 rfl) ((hw.keepO (C := cellB b8 [.slice lA l.length lc] 34) hW (by repeat constructor) rfl).2 b8 rfl) hq))) (fun _ _ => ?_)
  refine JL_split ?_
  refine s8 ?_
  refine kJ [(10, _), (11, _), (12, _)] ?_
  refine s3 ?_
  refine aDecF ?_ (by decide)
  refine s6 ?_
  refine xDx [0, 1, 2, 3, 4] [0] [1] [cellB b11 [.int .i64 (atV (prv Bk ed (hldM Bk ed fl0).S l 0 fl0.reverse))] 3] ?_
  refine s3 ?_
  refine dW0 rfl wAnyS ?_ (hm := by exact ⟨by kernel_rfl, .inl (by kernel_rfl)⟩)
  refine s4 ?_
  refine JR_three rfl (rr_cell rfl Agg.h (by repeat constructor) (by rfl)) (rr_cell rfl Agg.h (by repeat constructor) (by rfl)) (rr_tmp rfl) ?_
  intro w' hw
  exact ⟨by unfold prvR; rw [hq]; dsimp only; rw [prvV_eq], hw.bel⟩
 ·have hnz := prv_ne hq
  refine kJ [(5, _), (6, _), (7, _), (8, _), (9, _), (10, _), (11, _)] ?_
  refine s2 ?_
  refine aCB (fun w hw => answered_no 45 #[.pointer (some ⟨b5, 0, none⟩), .pointer (some ⟨b6, 0, none⟩), .pointer (some ⟨b7, 0, none⟩), .pointer (some ⟨b9, 0, none⟩), .pointer (some ⟨b8, 0, none⟩), .pointer (some ⟨b10, 0, none⟩), .pointer (some ⟨b11, 0, none⟩)] a n w (fun W hW => q38_no Bk A c b5 b6 b7 b9 b8 b10 b11 ed fl0 fA0 fc0 hok x hxk l lA lc W ((cellB b5 [.slice A Bk.length c] 51).st _ _ (fun b h => hW.block b ((hw.ok _ (by repeat constructor)).2 b h).2) (hw.ok (cellB b5 [.slice A Bk.length c] 51) (by repeat constructor)).1) ((cellB b6 [.int .i64 ed] 3).st _ _ (fun b h => hW.block b ((hw.ok _ (by repeat constructor)).2 b h).2) (hw.ok (cellB b6 [.int .i64 ed] 3) (by repeat constructor)).1) ((cellB b7 [.slice fA0 fl0.length fc0] 47).st _ _ (fun b h => hW.block b ((hw.ok _ (by repeat constructor)).2 b h).2) (hw.ok (cellB b7 [.slice fA0 fl0.length fc0] 47) (by repeat constructor)).1) ((cellB b9 [.string x] 9).st _ _ (fun b h => hW.block b ((hw.ok _ (by repeat constructor)).2 b h).2) (hw.ok (cellB b9 [.string x] 9) (by repeat constructor)).1) ((cellB b8 [.slice lA l.length lc] 34).st _ _ (fun b h => hW.block b ((hw.ok _ (by repeat constructor)).2 b h).2) (hw.ok (cellB b8 [.slice lA l.length lc] 34) (by repeat constructor)).1) ((hbk.up hw.bel).up hW) ((hfl.up ES hw.bel).up ES hW) ((hst.up EI hw.bel).up EI hW) hq)) ?_
  refine s8 ?_
  refine kJ [(10, _), (11, _), (12, _)] ?_
  refine s3 ?_
  refine aDecT ?_ hnz
  refine s13 ?_
  refine JR_three rfl (rr_cell rfl Agg.h (by repeat constructor) (by rfl)) (rr_cell rfl Agg.h (by repeat constructor) (by rfl)) (rr_tmp rfl) ?_
  intro w' hw
  exact ⟨by unfold prvR; rw [hq], hw.bel⟩
end Go.Proofs.YtmcpnoailbmkkaaGreatDoor
/- Differences and negatives that may wrap. Over any program. -/
namespace Go.Proofs.YtmcpnoailbmkkaaGreatDoor
open Go Go.RowKit Go.Proofs Go.Shelf
section
variable {P : Program} {n : Nat} {l : Sl} {o : Oper} {x y : Operand} {t ty : TypeId}
theorem pNegW {a : Int} [u : Und P t (.int .i64)] (ho : o.op = .unOp .neg t x) (hx : evl l x = some (.int .i64 a)) : RP P n l o (.int .i64 (IntKind.i64.wrap (-a))) := rp1 hx (fun ρ h1 w => by
 have hu := u.h
 unfold execOp
 simp only [ho, h1]
 go_simp)
end
end Go.Proofs.YtmcpnoailbmkkaaGreatDoor
/- The document of layer 2: Number of a digit. -/
namespace Go.Proofs.YtmcpnoailbmkkaaGreatDoor
open Go Go.RowKit Go.Proofs
attribute [local irreducible] J JQ JL JA JD

section
variable {P : Program} {n : Nat} {l : Sl} {o : Oper} {x : Operand} {B : Bs} {H : List It}
theorem RP.to {v v' : Value} (h : RP P n l o v) (e : v = v') : RP P n l o v' := e ▸ h
/-- One byte becomes a string. -/
theorem rv_conv1 {b c t : Nat} {s d e : TypeId} (hc : c < 256) (hs : P.underlying s = some (.slice e)) (he : P.underlying e = some (.int .u8)) (hd : P.underlying d = some .string) (ho : o.op = .convert s d x) (hx : evl l x = some (.slice (some ⟨b, 0, none⟩) 1 1)) (hm : cellB b [.int .u8 (c : Int)] t ∈ H) : RV P n B l H o (.string ⟨#[c.toUInt8]⟩) := fun a w ha hw => by
 have e8 : (c.toUInt8).toNat = c := Lib.toUInt8_toNat hc
 have h := run_convert_bytes_back (P := P) w s d e ⟨b, 0, none⟩ 1 [c.toUInt8] hs he hd (fun j hj => by
  obtain rfl : j = 0 := by simpa using hj
  have := cellB_get (off := 0) (hw.ok _ hm).1 rfl
  simpa [Addr.add, e8] using this)
 have h' : (convert s d (.slice (some ⟨b, 0, none⟩) 1 1)).run P w = .ok (.string ⟨#[c.toUInt8]⟩) w := h
 unfold execOp; rw [ho]; simp only [ha.ev hx, Sem.run_bind, h', Result.andThen_ok, Sem.run_pure]
theorem wrap8 {a : Int} (h : 0 ≤ a ∧ a ≤ 255) : IntKind.u8.wrap a = a := by
 unfold IntKind.wrap IntKind.bits IntKind.signed
 simp only [Bool.false_and]
 simp; omega
end
/-- The text of a digit. -/
abbrev digS (n : Nat) : ByteArray := ⟨#[(48 + n).toUInt8]⟩

set_option maxRecDepth 100000 in
set_option maxHeartbeats 4000000 in
theorem Number_any (n : Nat) (hn : n ≤ 9) (w : World) : Calls Tryz.prog 13 #[.int .i64 (n : Nat)] w (Back (.string (digS n)) w) := by
 refine J_enter (fun _ => False) (vs := [.int .i64 (n : Nat)]) (k := 25) (l := [(0, .int .i64 (n : Nat))]) Tryz.func13 rfl rfl Tryz.ntmps13 rfl rfl (Wd.start _) ?_
 refine s16 ?_
 refine aDecF ?_ (by omega)
 refine s6 ?_
 refine xL (T := Unit) (fun u => True) (fun u => [(0, .int .i64 (n : Nat)), (3, .string ⟨#[]⟩), (4, .string ⟨#[]⟩)]) (fun u => []) (fun u => 0) () trivial ?_
 rintro ⟨⟩ hphi
 refine s4 ?_
 refine aP ((pRem rfl rfl rfl).to (congrArg (Value.int .i64) (by omega : (n : Int) % 10 = (n : Int)))) ?_
 refine s1 ?_
 refine aP ((pRem rfl rfl rfl).to (congrArg (Value.int .i64) (by omega : (n : Int) % 10 = (n : Int)))) ?_
 refine aP ((pNegW rfl rfl).to (congrArg (Value.int .i64) (wrap64 (by omega) : IntKind.i64.wrap (-(n : Int)) = -(n : Int)))) ?_
 refine aP ((pMax rfl rfl rfl).to (congrArg (Value.int .i64) (by omega : max (n : Int) (-(n : Int)) = (n : Int)))) ?_
 refine aP ((pAdd rfl rfl rfl).to (congrArg (Value.int .i64) (by omega : 48 + (n : Int) = ((48 + n : Nat) : Int)))) ?_
 refine aP (rp1 rfl (fun _ h1 _ => ex_conv (k := .i64) (k' := .u8) rfl h1 (wrap8 (by omega)))) ?_
 refine aW (ow_sliceC (vs := [_]) (ty := 5) rfl rfl (by rfl) rfl rfl (fun _ => by kernel_rfl)) (fun b15 hb15 => ?_)
 refine aV (rv_conv1 (c := 48 + n) (by omega) Und.h Und.h Und.h rfl rfl (by repeat constructor)) ?_
 refine s1 ?_
 refine aP ((pCatS rfl rfl rfl (by show 1 + 0 ≤ _; omega)).to (show Value.string (digS n ++ ⟨#[]⟩) = .string (digS n) from rfl)) ?_
 refine s4 ?_
 refine kJ [(0, _), (3, _), (4, _)] ?_
 refine s2 ?_
 refine aP ((pQuo rfl rfl rfl).to (congrArg (Value.int .i64) (by omega : (n : Int) / 10 = 0))) ?_
 refine s7 ?_
 refine aDecT ?_ rfl
 refine s4 ?_
 refine kJ [(3, _), (4, _)] ?_
 refine s3 ?_
 refine aP ((pCatS rfl rfl rfl (by show 0 + 1 ≤ _; omega)).to (show Value.string (⟨#[]⟩ ++ digS n) = .string (digS n) from rfl)) ?_
 refine s7 ?_
 refine JR_one rfl (rr_tmp rfl) ?_
 intro w' hw
 exact ⟨rfl, hw.bel⟩
end Go.Proofs.YtmcpnoailbmkkaaGreatDoor
/- Across layers, a rule book: names, book. -/
namespace Go.Proofs.YtmcpnoailbmkkaaGreatDoor
open Go Go.RowKit Go.Proofs
attribute [local irreducible] J JQ JL JA JD

abbrev nm0 : ByteArray := ⟨#[97, 45, 108, 97, 116, 101]⟩
abbrev nm1 : ByteArray := ⟨#[98, 45, 111, 119, 110, 45, 97, 104, 101, 97, 100]⟩
abbrev nm2 : ByteArray := ⟨#[99, 45, 115, 104, 111, 114, 116]⟩
abbrev nm3 : ByteArray := ⟨#[100, 45, 111, 116, 104, 101, 114, 45, 97, 104, 101, 97, 100]⟩
abbrev nm4 : ByteArray := ⟨#[101, 45, 111, 119, 110, 45, 98, 101, 104, 105, 110, 100]⟩
abbrev nm5 : ByteArray := ⟨#[102, 45, 111, 116, 104, 101, 114, 45, 98, 101, 104, 105, 110, 100]⟩
abbrev nm6 : ByteArray := ⟨#[103, 45, 114, 101, 109, 111, 118, 101, 100]⟩
abbrev nm7 : ByteArray := ⟨#[104, 45, 109, 111, 118, 101, 100]⟩
abbrev sfS : ByteArray := ⟨#[115, 97, 102, 101]⟩
abbrev lnS : ByteArray := ⟨#[108, 105, 110, 101]⟩
abbrev rlS : ByteArray := ⟨#[114, 117, 108, 101, 45]⟩
abbrev r8S : ByteArray := ⟨#[114, 117, 108, 101, 45, 56]⟩
abbrev r9S : ByteArray := ⟨#[114, 117, 108, 101, 45, 57]⟩
abbrev r0S : ByteArray := ⟨#[114, 117, 108, 101, 45, 48]⟩
theorem ok_lit2 {s : ByteArray} (h : s.size ≤ 1000) : okS s := Nat.le_trans h (by decide)
/-- The name of rule n. -/
abbrev ruS (n : Nat) : ByteArray := rlS ++ digS n
abbrev nmL : List ByteArray := [nm0, nm1, nm2, nm3, nm4, nm5, nm6, nm7]
abbrev nmV : List Value := [.string nm0, .string nm1, .string nm2, .string nm3, .string nm4, .string nm5, .string nm6, .string nm7]
theorem nm_ok : ∀ s ∈ nmL, okS s := fun s hs => ok_lit2 ((by decide : ∀ s ∈ nmL, s.size ≤ 1000) s hs)
theorem nm_get {k : Nat} (h : k < 8) : ∃ x, nmV[0 + k * 1 + 0]? = some (.string x) ∧ nmL[k]? = some x ∧ okS x := by
 rcases (show k = 0 ∨ k = 1 ∨ k = 2 ∨ k = 3 ∨ k = 4 ∨ k = 5 ∨ k = 6 ∨ k = 7 by omega) with rfl | rfl | rfl | rfl | rfl | rfl | rfl | rfl
 all_goals exact ⟨_, rfl, rfl, ok_lit2 (by decide)⟩
theorem cell_arr {α : Type} {k : Nat} {enc : α → List Value} (E : Enc k enc) {w : World} {b ty : Nat} {vs : List Value} (L : List α) (h : (cellB b vs ty).holds w) (hv : vs = L.flatMap enc) (hn : L.length ≤ 1000) : Arr k enc w (.slice (some ⟨b, 0, none⟩) L.length L.length) L := by
 subst hv
 refine ⟨_, _, rfl, Nat.le_refl _, ⟨by omega, by unfold maxLen; omega⟩, fun _ => ⟨b, 0, rfl, fun j hj i hi => ?_⟩⟩
 have h' : w.heap[b]? = some (.cells (L.flatMap enc).toArray ty (0, 0)) := h
 rw [Nat.zero_add, ← flat_get E hj i hi]
 have hlt : j * k + i < (L.flatMap enc).length := by
  rw [flat_len E]
  have : (j + 1) * k ≤ L.length * k := Nat.mul_le_mul_right k hj
  rw [Nat.succ_mul] at this; omega
 simp [World.cell?, h']
/-- What a clause says. -/
structure ClP where
 n : ByteArray
 f : Int
 t : Int
 fs : List ByteArray
 us : List ByteArray
 th : ByteArray
def clP (c : Cl) : ClP := ⟨c.n, c.f, c.t, c.fs.l, c.us.l, c.th⟩
def linP (k : Nat) (x : ByteArray) : ClP := ⟨lnS, 0, 1000, [x], if k = 6 then nmL.take 6 ++ [sfS] else nmL.take k, if k = 7 then r9S else ruS (k + 1)⟩
def extP : ClP := ⟨lnS, 0, 1000, [nm6, sfS], nmL.take 6, r8S⟩
def rowP (k : Nat) : List ClP := (if k = 6 then [extP] else []) ++ [linP k (nmL.getD k lnS)]
theorem row_1 {k : Nat} {x : ByteArray} (h6 : k ≠ 6) (hx : nmL[k]? = some x) : rowP k = [⟨lnS, 0, 1000, [x], nmL.take k, if k = 7 then r9S else ruS (k + 1)⟩] := by unfold rowP linP; rw [if_neg h6, if_neg h6]; simp [List.getD, hx]
theorem row_6 : rowP 6 = [extP, ⟨lnS, 0, 1000, [nm6], nmL.take 6 ++ [sfS], ruS 7⟩] := rfl
def bkT : Nat → List ClP
 | 0 => []
 | k + 1 => bkT k ++ rowP k
/-- The book. -/
def bkA : List ClP := bkT 8 ++ [⟨lnS, 0, 1000, [], nmL, r0S⟩]
theorem bkT_len : ∀ k, k ≤ 8 → (bkT k).length ≤ 9
 | k, h => by
  rcases (show k = 0 ∨ k = 1 ∨ k = 2 ∨ k = 3 ∨ k = 4 ∨ k = 5 ∨ k = 6 ∨ k = 7 ∨ k = 8 by omega) with rfl | rfl | rfl | rfl | rfl | rfl | rfl | rfl | rfl
  all_goals decide +kernel
/-- A clause in memory, by the rows that hold its parts. -/
def ClG (b : Nat) (HA : List It) (c : Cl) : Prop := ∀ w, (cellB b nmV 9).holds w → (∀ A ∈ HA, A.holds w) → ClW w c
theorem ClG.up {b : Nat} {HA : List It} {c : Cl} (h : ClG b HA c) (A : It) : ClG b (HA ++ [A]) c := fun w h1 h2 => h w h1 (fun A hA => h2 A (List.mem_append_left _ hA))
theorem ln_ok : okS lnS := ok_lit2 (by decide)
theorem ru_ok {n : Nat} : okS (ruS n) := ok_lit2 (by show 5 + 1 ≤ _; omega)
theorem nm_arr {b k : Nat} {w : World} (h : (cellB b nmV 9).holds w) (hk : k ≤ 8) : Arr 1 eS w (.slice (some ⟨b, 0, none⟩) k 8) (nmL.take k) := (cell_arr ES nmL h rfl (by decide)).takeC hk
theorem take_ok (k : Nat) : ∀ s ∈ nmL.take k, okS s := fun s hs => nm_ok s (List.mem_of_mem_take hs)
theorem clg_lin {b k b1 : Nat} {HA : List It} {x : ByteArray} {th : ByteArray} (hk : k ≤ 8) (hx : okS x) (ht : okS th) (hm : cellB b1 [.string x] 9 ∈ HA) : ClG b HA ⟨lnS, 0, 1000, ⟨some ⟨b1, 0, none⟩, 1, 1, [x]⟩, ⟨some ⟨b, 0, none⟩, k, 8, nmL.take k⟩, th⟩ := fun w h1 h2 =>
 ⟨cell_arr ES [x] (h2 _ hm) rfl (Nat.le_of_ble_eq_true rfl), nm_arr h1 hk, fun s hs => by rw [List.mem_singleton.1 hs]; exact hx, take_ok k, ln_ok, ht⟩
theorem clg_ext {b b1 : Nat} {HA : List It} (hm : cellB b1 [.string nm6, .string sfS] 9 ∈ HA) : ClG b HA ⟨lnS, 0, 1000, ⟨some ⟨b1, 0, none⟩, 2, 2, [nm6, sfS]⟩, ⟨some ⟨b, 0, none⟩, 6, 8, nmL.take 6⟩, r8S⟩ := fun w h1 h2 =>
 ⟨cell_arr ES [nm6, sfS] (h2 _ hm) rfl (by decide), nm_arr h1 (by decide : 6 ≤ 8), fun s hs => ok_lit2 ((by decide : ∀ s ∈ [nm6, sfS], s.size ≤ 1000) s hs), take_ok 6, ln_ok, ok_lit2 (s := r8S) (by decide)⟩
theorem clg_six {b b1 g c : Nat} {HA : List It} {m : List ByteArray} (hm : cellB b1 [.string nm6] 9 ∈ HA) (he : m = nmL.take 6 ++ [sfS]) (hg : ownB 9 1 (some ⟨g, 0, none⟩) m.length c (m.flatMap eS) ∈ HA) : ClG b HA ⟨lnS, 0, 1000, ⟨some ⟨b1, 0, none⟩, 1, 1, [nm6]⟩, ⟨some ⟨g, 0, none⟩, m.length, c, m⟩, ruS 7⟩ := fun w h1 h2 => by
 have h3 : w.ownsRow 0 9 1 (.slice (some ⟨g, 0, none⟩) m.length c) m.length (m.flatMap eS) := h2 _ hg
 have hl : m.length = 7 := by rw [he]; rfl
 exact ⟨cell_arr ES [nm6] (h2 _ hm) rfl (by decide), Arr.of_own ES h3 (by show m.length ≤ _; omega), fun s hs => by rw [List.mem_singleton.1 hs]; exact ok_lit2 (by decide), fun s hs => by rw [he] at hs; exact ok_lit2 ((by decide : ∀ s ∈ nmL.take 6 ++ [sfS], s.size ≤ 1000) s hs), ln_ok, ru_ok⟩
theorem clg_last {b : Nat} {HA : List It} : ClG b HA ⟨lnS, 0, 1000, ⟨none, 0, 0, []⟩, ⟨some ⟨b, 0, none⟩, 8, 8, nmL⟩, r0S⟩ := fun w h1 _ =>
 ⟨Arr.nil _, nm_arr h1 (Nat.le_refl _), fun s hs => (by cases hs), nm_ok, ln_ok, ok_lit2 (s := r0S) (by decide)⟩
theorem nro_p {HA : List It} {A : It} (h : (HA.all fun A => !A.ro) = true) (hA : A.ro = false := by rfl) : ((HA ++ [A]).all fun A => !A.ro) = true := by rw [List.all_append, h]; simp [hA]
/-- A book in memory. -/
structure BkR where
 A : Option Addr
 c : Nat
 L : List Cl
 HA : List It
 b : Nat
def BkQ (t : BkR) : Prop := t.L.map clP = bkA ∧ (∀ c ∈ t.L, ClG t.b t.HA c) ∧ (t.HA.all fun A => !A.ro) = true
abbrev bkI (t : BkR) : List It := [ownB 112 6 t.A t.L.length t.c (t.L.flatMap eC), grpB t.HA, cellB t.b nmV 9]

set_option maxRecDepth 100000 in
set_option maxHeartbeats 4000000 in
theorem names_any (w : World) : Calls Tryz.prog 10 #[] w (Ret w (fun _ : Nat => True) (fun b => .slice (some ⟨b, 0, none⟩) 8 8) (fun b => [cellB b nmV 9])) := by
 refine J_enter (fun _ => False) (vs := []) (k := 2) (l := []) Tryz.func10 rfl rfl Tryz.ntmps10 rfl rfl (Wd.start _) ?_
 refine s7 ?_
 refine aW (ow_sliceC (vs := [_, _, _, _, _, _, _, _]) (ty := 9) rfl rfl (by rfl) rfl rfl (fun _ => by kernel_rfl)) (fun b1 hb1 => ?_)
 refine s4 ?_
 refine JR_one rfl (rr_tmp rfl) ?_
 intro w' hw
 exact ⟨b1, trivial, rfl, hw.pick (by repeat constructor)⟩
set_option maxRecDepth 100000 in
set_option maxHeartbeats 4000000 in
theorem book_any (w : World) : Calls Tryz.prog 12 #[] w (Ret w BkQ (fun t => .slice t.A t.L.length t.c) bkI) := by
 refine J_enter (fun _ => False) (vs := []) (k := 59) (l := []) Tryz.func12 rfl rfl Tryz.ntmps12 rfl rfl (Wd.start _) ?_
 refine s7 ?_
 refine aW (oR (fun w hw => names_any w)) (fun b5 _ => ?_)
 refine s4 ?_
 refine J_own0 112 6 ?_
 refine J_grp0 ?_
 refine s11 ?_
 refine xL (T := Nat × BkR) (fun q => q.1 ≤ 8 ∧ q.2.L.map clP = bkT q.1 ∧ (∀ c ∈ q.2.L, ClG b5 q.2.HA c) ∧ (q.2.HA.all fun A => !A.ro) = true) (fun q => [(1, .slice (some ⟨b5, 0, none⟩) 8 8), (2, .slice q.2.A q.2.L.length q.2.c), (3, .int .i64 (q.1 : Nat))]) (fun q => [ownB 112 6 q.2.A q.2.L.length q.2.c (q.2.L.flatMap eC), grpB q.2.HA, cellB b5 nmV 9]) (fun q => 8 - q.1) (0, ⟨none, 0, [], [], 0⟩) ⟨Nat.zero_le _, rfl, fun _ h => (by cases h), rfl⟩ ?_
 rintro ⟨k, ⟨A, cc, L, HA, _b⟩⟩ ⟨hk, hm, hg, hr⟩
 dsimp only at hk hm hg hr ⊢
 have hLn : L.length ≤ 9 := by
  have h := congrArg List.length hm
  rw [List.length_map] at h
  rw [h]; exact bkT_len k hk
 refine s7 ?_
 refine JL_dec (fun h9 => ?_) (fun h9 => ?_)
 ·refine s7 ?_
  obtain ⟨x, hz, hxk, hxo⟩ := nm_get (show k < 8 by omega)
  refine xC (T := Nat × Nat) (fun q => True) (fun q => [(1, .slice (some ⟨b5, 0, none⟩) 8 8), (2, .slice A L.length cc), (3, .int .i64 (k : Nat)), (4, .pointer (some ⟨q.1, 0, none⟩))]) (fun q => [cellB q.1 [.string lnS, .int .i64 0, .int .i64 1000, .slice (some ⟨q.2, 0, none⟩) 1 1, .slice (some ⟨b5, 0, none⟩) k 8, .string (ruS (k + 1))] 112, cellB q.2 [.string x] 9, ownB 112 6 A L.length cc (L.flatMap eC), grpB HA, cellB b5 nmV 9]) ?_ ?_
  ·refine kJ [(1, _), (2, _), (3, _)] ?_
   refine xD [0, 1, 2, 3, 5, 6, 7, 8, 9] [3] ?_
   refine s3 ?_
   refine dL rfl (vCell rfl rfl (by repeat constructor) hz) ?_
   refine s2 ?_
   refine dP rfl (rp_sliceTo (k := _) rfl rfl rfl Und.h Siz.h rfl (by omega)) ?_
   refine s2 ?_
   refine dThree (i := 4) (j := 10) (k := 13) (by kernel_rfl) ?_ ?_ ?_
   ·refine St1_mk rfl wAny (ow_sliceC (vs := [_]) (ty := 9) rfl rfl (by rfl) rfl rfl (fun _ => by kernel_rfl)) (by first | exact trivial | exact ⟨by kernel_rfl, .inl (rfl : waitsB _ [] _ = true)⟩ | exact ⟨by kernel_rfl, .inr ⟨rfl, by repeat constructor⟩⟩) (fun b16 hb16 => ?_)
    refine dOA [] ?_
    refine dPair (i := 10) (j := 13) (by kernel_rfl) ?_ ?_
    ·refine St1_mk rfl wAny (oB (fun w hw => Number_any (k + 1) (by omega) w)) (by first | exact trivial | exact ⟨by kernel_rfl, .inl (rfl : waitsB _ [] _ = true)⟩ | exact ⟨by kernel_rfl, .inr ⟨rfl, by repeat constructor⟩⟩) (fun _ _ => ?_)
     refine dOA [11, 12, 13, 14] ?_
     refine dP rfl (pCatS rfl rfl rfl (by show 5 + 1 ≤ _; omega)) ?_
     refine dP rfl (rp_buildC (fun us => [us.getD 0 undef, .int .i64 0, us.getD 1 undef, us.getD 2 undef, us.getD 3 undef, us.getD 4 undef]) rfl rfl (fun w => by kernel_rfl)) ?_
     refine dW rfl oA (fun b4 hb4 => ?_)
     refine s2 ?_
     exact xE (b4, b16) trivial
    ·refine St1_mk rfl wAny oA (by first | exact trivial | exact ⟨by kernel_rfl, .inl (rfl : waitsB _ [] _ = true)⟩ | exact ⟨by kernel_rfl, .inr ⟨rfl, by repeat constructor⟩⟩) (fun b4 hb4 => ?_)
     refine dOA [10, 11, 12, 14] ?_
     refine dCB rfl (fun w hw => Number_any (k + 1) (by omega) w) ?_
     refine dP rfl (pCatS rfl rfl rfl (by show 5 + 1 ≤ _; omega)) ?_
     refine dP rfl (rp_buildC (fun us => [us.getD 0 undef, .int .i64 0, us.getD 1 undef, us.getD 2 undef, us.getD 3 undef, us.getD 4 undef]) rfl rfl (fun w => by kernel_rfl)) ?_
     refine s2 ?_
     exact xE (b4, b16) trivial
   ·refine St1_mk rfl wAny (oB (fun w hw => Number_any (k + 1) (by omega) w)) (by first | exact trivial | exact ⟨by kernel_rfl, .inl (rfl : waitsB _ [] _ = true)⟩ | exact ⟨by kernel_rfl, .inr ⟨rfl, by repeat constructor⟩⟩) (fun _ _ => ?_)
    refine dOA [11] ?_
    refine dP rfl (pCatS rfl rfl rfl (by show 5 + 1 ≤ _; omega)) ?_
    refine dPair (i := 4) (j := 13) (by kernel_rfl) ?_ ?_
    ·refine St1_mk rfl wAny (ow_sliceC (vs := [_]) (ty := 9) rfl rfl (by rfl) rfl rfl (fun _ => by kernel_rfl)) (by first | exact trivial | exact ⟨by kernel_rfl, .inl (rfl : waitsB _ [] _ = true)⟩ | exact ⟨by kernel_rfl, .inr ⟨rfl, by repeat constructor⟩⟩) (fun b16 hb16 => ?_)
     refine dOA [12, 13, 14] ?_
     refine dP rfl (rp_buildC (fun us => [us.getD 0 undef, .int .i64 0, us.getD 1 undef, us.getD 2 undef, us.getD 3 undef, us.getD 4 undef]) rfl rfl (fun w => by kernel_rfl)) ?_
     refine dW rfl oA (fun b4 hb4 => ?_)
     refine s2 ?_
     exact xE (b4, b16) trivial
    ·refine St1_mk rfl wAny oA (by first | exact trivial | exact ⟨by kernel_rfl, .inl (rfl : waitsB _ [] _ = true)⟩ | exact ⟨by kernel_rfl, .inr ⟨rfl, by repeat constructor⟩⟩) (fun b4 hb4 => ?_)
     refine dOA [4, 12, 14] ?_
     refine dW rfl (ow_sliceC (vs := [_]) (ty := 9) rfl rfl (by rfl) rfl rfl (fun _ => by kernel_rfl)) (fun b16 hb16 => ?_)
     refine dP rfl (rp_buildC (fun us => [us.getD 0 undef, .int .i64 0, us.getD 1 undef, us.getD 2 undef, us.getD 3 undef, us.getD 4 undef]) rfl rfl (fun w => by kernel_rfl)) ?_
     refine s2 ?_
     exact xE (b4, b16) trivial
   ·refine St1_mk rfl wAny oA (by first | exact trivial | exact ⟨by kernel_rfl, .inl (rfl : waitsB _ [] _ = true)⟩ | exact ⟨by kernel_rfl, .inr ⟨rfl, by repeat constructor⟩⟩) (fun b4 hb4 => ?_)
    refine dOA [] ?_
    refine dPair (i := 4) (j := 10) (by kernel_rfl) ?_ ?_
    ·refine St1_mk rfl wAny (ow_sliceC (vs := [_]) (ty := 9) rfl rfl (by rfl) rfl rfl (fun _ => by kernel_rfl)) (by first | exact trivial | exact ⟨by kernel_rfl, .inl (rfl : waitsB _ [] _ = true)⟩ | exact ⟨by kernel_rfl, .inr ⟨rfl, by repeat constructor⟩⟩) (fun b16 hb16 => ?_)
     refine dOA [10, 11, 12, 14] ?_
     refine dCB rfl (fun w hw => Number_any (k + 1) (by omega) w) ?_
     refine dP rfl (pCatS rfl rfl rfl (by show 5 + 1 ≤ _; omega)) ?_
     refine dP rfl (rp_buildC (fun us => [us.getD 0 undef, .int .i64 0, us.getD 1 undef, us.getD 2 undef, us.getD 3 undef, us.getD 4 undef]) rfl rfl (fun w => by kernel_rfl)) ?_
     refine s2 ?_
     exact xE (b4, b16) trivial
    ·refine St1_mk rfl wAny (oB (fun w hw => Number_any (k + 1) (by omega) w)) (by first | exact trivial | exact ⟨by kernel_rfl, .inl (rfl : waitsB _ [] _ = true)⟩ | exact ⟨by kernel_rfl, .inr ⟨rfl, by repeat constructor⟩⟩) (fun _ _ => ?_)
     refine dOA [11, 4, 12, 14] ?_
     refine dP rfl (pCatS rfl rfl rfl (by show 5 + 1 ≤ _; omega)) ?_
     refine dW rfl (ow_sliceC (vs := [_]) (ty := 9) rfl rfl (by rfl) rfl rfl (fun _ => by kernel_rfl)) (fun b16 hb16 => ?_)
     refine dP rfl (rp_buildC (fun us => [us.getD 0 undef, .int .i64 0, us.getD 1 undef, us.getD 2 undef, us.getD 3 undef, us.getD 4 undef]) rfl rfl (fun w => by kernel_rfl)) ?_
     refine s2 ?_
     exact xE (b4, b16) trivial
  ·rintro ⟨b4, b16⟩ -
   dsimp only
   refine s5 ?_
   refine JL_dec (fun h26 => ?_) (fun h26 => ?_)
   ·refine s4 ?_
    obtain rfl : k = 6 := by omega
    obtain rfl : nm6 = x := Option.some.inj hxk
    refine s1 ?_
    refine aW (ow_slice0 (k := 1) (ty := 9) rfl rfl rfl (fun _ => by kernel_rfl)) (fun b27 hb27 => ?_)
    refine s2 ?_
    refine aP (rp_sliceTo (k := _) rfl rfl rfl Und.h Siz.h rfl (by omega)) ?_
    refine aW (oAppG (sl := 47) ES ([] : List ByteArray) (nmL.take 6) (fun w hw => nm_arr (k := 6) (hw.ok (cellB b5 nmV 9) (by repeat constructor)).1 (by decide)) rfl (Nat.le_refl _) (hl := by decide)) (fun t31 _ => ?_)
    obtain ⟨g31, c31⟩ := t31
    dsimp only
    rw [List.nil_append]
    obtain ⟨m6, hm6⟩ : ∃ m6, m6 = nmL.take 6 := ⟨_, rfl⟩
    rw [← hm6]
    have hl6 : m6.length = 6 := by rw [hm6]; rfl
    first | refine JL_fact (fun hw => ?_) | refine JD_fact (fun hw => ?_)
    obtain ⟨⟨hc31, -⟩, -⟩ := own_cn hw (ty := 9) (k := 1) (A := some ⟨g31, 0, none⟩) (m := m6.length) (c := c31) (xs := m6.flatMap eS) (by repeat constructor)
    clear hw
    refine aW (ow_sliceC (vs := [_]) (ty := 9) rfl rfl (by rfl) rfl rfl (fun _ => by kernel_rfl)) (fun b32 hb32 => ?_)
    refine aW (oAppG (sl := 47) ES m6 [sfS] (fun w hw => cell_arr ES [sfS] (hw.ok (cellB b32 [.string sfS] 9) (by repeat constructor)).1 rfl (by decide)) rfl hc31 (hl := by rw [List.length_singleton]; omega)) (fun t33 _ => ?_)
    obtain ⟨g33, c33⟩ := t33
    dsimp only
    obtain ⟨m7, hm7⟩ : ∃ m7, m7 = m6 ++ [sfS] := ⟨_, rfl⟩
    rw [← hm7]
    rw [hm6] at hm7
    have hl7 : m7.length = 7 := by rw [hm7]; rfl
    refine s4 ?_
    refine kJ [(1, _), (2, _), (3, _), (4, _)] ?_
    refine xDx [0, 1, 2, 3, 4, 6, 7, 8, 5, 9, 10, 11, 12] [] [4] [cellB b5 nmV 9] ?_
    refine s4 ?_
    refine dX rfl (vCell rfl rfl (by repeat constructor) hz) ?_
    refine s2 ?_
    refine dP rfl (rp_sliceTo (k := _) rfl rfl rfl Und.h Siz.h rfl (by omega)) ?_
    refine dW rfl (ow_sliceC (vs := [_, _]) (ty := 9) rfl rfl (by rfl) rfl rfl (fun _ => by kernel_rfl)) (fun b40 hb40 => ?_)
    refine dP rfl (rp_buildC (fun us => [us.getD 0 undef, .int .i64 0, us.getD 1 undef, us.getD 2 undef, us.getD 3 undef, us.getD 4 undef]) rfl rfl (fun w => by kernel_rfl)) ?_
    refine dW rfl (ow_sliceC (vs := [_, _, _, _, _, _]) (ty := 112) rfl rfl (by rfl) rfl rfl (fun _ => by kernel_rfl)) (fun b45 hb45 => ?_)
    refine dS rfl (oApp (sl := 51) EC6 (⟨lnS, 0, 1000, ⟨some ⟨b40, 0, none⟩, 2, 2, [nm6, sfS]⟩, ⟨some ⟨b5, 0, none⟩, 6, 8, nmL.take 6⟩, r8S⟩ : Cl)) (fun A46 c46 => ?_)
    refine s5 ?_
    refine kJ [(1, _), (2, _), (3, _), (4, _)] ?_
    refine s3 ?_
    refine aDecF ?_ (by omega)
    refine s8 ?_
    refine aW (ow_sliceC (vs := [_, _, _, _, _, _]) (ty := 112) rfl rfl (by rfl) rfl rfl (fun _ => by kernel_rfl)) (fun b52 hb52 => ?_)
    refine aS (oApp (sl := 51) EC6 (⟨lnS, 0, 1000, ⟨some ⟨b16, 0, none⟩, 1, 1, [nm6]⟩, ⟨some ⟨g33, 0, none⟩, m7.length, c33, m7⟩, ruS 7⟩ : Cl) (hl := by rw [List.length_append, List.length_singleton]; omega)) (fun A53 c53 => ?_)
    refine s4 ?_
    refine kJ [(1, _), (2, _), (3, _)] ?_
    refine s5 ?_
    refine JQ_push (HA) (cellB b16 [.string nm6] 9) hr ?_ (hk := (by repeat (first | exact Pk.refl _ | (apply Pk.pick; (repeat (first | exact Rm.here _ | apply Rm.there))))))
    refine JQ_push ((HA ++ [cellB b16 [.string nm6] 9])) (ownB 9 1 (some ⟨g33, 0, none⟩) m7.length c33 (m7.flatMap eS)) (nro_p hr) ?_ (hk := (by repeat (first | exact Pk.refl _ | (apply Pk.pick; (repeat (first | exact Rm.here _ | apply Rm.there))))))
    refine JQ_push (((HA ++ [cellB b16 [.string nm6] 9]) ++ [ownB 9 1 (some ⟨g33, 0, none⟩) m7.length c33 (m7.flatMap eS)])) (cellB b40 [.string nm6, .string sfS] 9) (nro_p (nro_p hr)) ?_ (hk := (by repeat (first | exact Pk.refl _ | (apply Pk.pick; (repeat (first | exact Rm.here _ | apply Rm.there))))))
    exact xR (7, ⟨A53, c53, (L ++ [(⟨lnS, 0, 1000, ⟨some ⟨b40, 0, none⟩, 2, 2, [nm6, sfS]⟩, ⟨some ⟨b5, 0, none⟩, 6, 8, nmL.take 6⟩, r8S⟩ : Cl)]) ++ [(⟨lnS, 0, 1000, ⟨some ⟨b16, 0, none⟩, 1, 1, [nm6]⟩, ⟨some ⟨g33, 0, none⟩, m7.length, c33, m7⟩, ruS 7⟩ : Cl)], (((HA ++ [cellB b16 [.string nm6] 9]) ++ [ownB 9 1 (some ⟨g33, 0, none⟩) m7.length c33 (m7.flatMap eS)]) ++ [cellB b40 [.string nm6, .string sfS] 9]), 0⟩) ⟨by dsimp only; omega, by dsimp only; rw [List.map_append, List.map_append, hm, List.append_assoc]; show _ = bkT 6 ++ rowP 6; rw [row_6, hm7]; rfl, fun c hc => by
      rcases List.mem_append.1 hc with h | h
      ·rcases List.mem_append.1 h with h | h
       ·exact (((hg c h).up _).up _).up _
       ·rw [List.mem_singleton.1 h]; exact clg_ext (by simp)
      ·rw [List.mem_singleton.1 h]; exact clg_six (by simp) hm7 (by simp), nro_p (nro_p (nro_p hr))⟩ (by dsimp only; omega) (hl := ⟨rfl, rfl, (congrArg some (by go_num)), trivial⟩)
   ·refine s10 ?_
    refine JL_dec (fun h48 => ?_) (fun h48 => ?_)
    ·refine s3 ?_
     refine kJ [(1, _), (2, _), (3, _), (4, _)] ?_
     refine s8 ?_
     refine aW (ow_sliceC (vs := [_, _, _, _, _, _]) (ty := 112) rfl rfl (by rfl) rfl rfl (fun _ => by kernel_rfl)) (fun b52 hb52 => ?_)
     refine aS (oApp (sl := 51) EC6 (⟨lnS, 0, 1000, ⟨some ⟨b16, 0, none⟩, 1, 1, [x]⟩, ⟨some ⟨b5, 0, none⟩, k, 8, nmL.take k⟩, r9S⟩ : Cl)) (fun A53 c53 => ?_)
     refine s4 ?_
     refine kJ [(1, _), (2, _), (3, _)] ?_
     refine s5 ?_
     refine JQ_push (HA) (cellB b16 [.string x] 9) hr ?_ (hk := (by repeat (first | exact Pk.refl _ | (apply Pk.pick; (repeat (first | exact Rm.here _ | apply Rm.there))))))
     exact xR (k + 1, ⟨A53, c53, L ++ [(⟨lnS, 0, 1000, ⟨some ⟨b16, 0, none⟩, 1, 1, [x]⟩, ⟨some ⟨b5, 0, none⟩, k, 8, nmL.take k⟩, r9S⟩ : Cl)], HA ++ [cellB b16 [.string x] 9], 0⟩) ⟨by dsimp only; omega, by dsimp only; rw [List.map_append, hm]; show _ = bkT k ++ rowP k; rw [row_1 (by omega) hxk, if_pos (by omega)]; rfl, fun c hc => by
       rcases List.mem_append.1 hc with h | h
       ·exact (hg c h).up _
       ·rw [List.mem_singleton.1 h]; exact clg_lin (by omega) hxo (by first | exact ru_ok | exact ok_lit2 (by decide)) (by simp), nro_p hr⟩ (by dsimp only; omega) (hl := ⟨rfl, rfl, (congrArg some (by go_num)), trivial⟩)
    ·refine s5 ?_
     refine kJ [(1, _), (2, _), (3, _), (4, _)] ?_
     refine s3 ?_
     refine aW (ow_sliceC (vs := [_, _, _, _, _, _]) (ty := 112) rfl rfl (by rfl) rfl rfl (fun _ => by kernel_rfl)) (fun b52 hb52 => ?_)
     refine aS (oApp (sl := 51) EC6 (⟨lnS, 0, 1000, ⟨some ⟨b16, 0, none⟩, 1, 1, [x]⟩, ⟨some ⟨b5, 0, none⟩, k, 8, nmL.take k⟩, ruS (k + 1)⟩ : Cl)) (fun A53 c53 => ?_)
     refine s4 ?_
     refine kJ [(1, _), (2, _), (3, _)] ?_
     refine s5 ?_
     refine JQ_push (HA) (cellB b16 [.string x] 9) hr ?_ (hk := (by repeat (first | exact Pk.refl _ | (apply Pk.pick; (repeat (first | exact Rm.here _ | apply Rm.there))))))
     exact xR (k + 1, ⟨A53, c53, L ++ [(⟨lnS, 0, 1000, ⟨some ⟨b16, 0, none⟩, 1, 1, [x]⟩, ⟨some ⟨b5, 0, none⟩, k, 8, nmL.take k⟩, ruS (k + 1)⟩ : Cl)], HA ++ [cellB b16 [.string x] 9], 0⟩) ⟨by dsimp only; omega, by dsimp only; rw [List.map_append, hm]; show _ = bkT k ++ rowP k; rw [row_1 (by omega) hxk, if_neg (by omega)]; rfl, fun c hc => by
       rcases List.mem_append.1 hc with h | h
       ·exact (hg c h).up _
       ·rw [List.mem_singleton.1 h]; exact clg_lin (by omega) hxo (by first | exact ru_ok | exact ok_lit2 (by decide)) (by simp), nro_p hr⟩ (by dsimp only; omega) (hl := ⟨rfl, rfl, (congrArg some (by go_num)), trivial⟩)
 ·refine s9 ?_
  refine kJ [(1, _), (2, _)] ?_
  refine s3 ?_
  refine aP (rp_buildC (fun us => [us.getD 0 undef, .int .i64 0, us.getD 1 undef, .slice none 0 0, us.getD 2 undef, us.getD 3 undef]) rfl rfl (fun w => by kernel_rfl)) ?_
  refine aW (ow_sliceC (vs := [_, _, _, _, _, _]) (ty := 112) rfl rfl (by rfl) rfl rfl (fun _ => by kernel_rfl)) (fun b57 hb57 => ?_)
  refine aS (oApp (sl := 51) EC6 (⟨lnS, 0, 1000, ⟨none, 0, 0, []⟩, ⟨some ⟨b5, 0, none⟩, 8, 8, nmL⟩, r0S⟩ : Cl)) (fun A58 c58 => ?_)
  refine s4 ?_
  refine JR_one rfl (rr_tmp rfl) ?_
  intro w' hw
  obtain rfl : k = 8 := by omega
  exact ⟨⟨A58, c58, L ++ [(⟨lnS, 0, 1000, ⟨none, 0, 0, []⟩, ⟨some ⟨b5, 0, none⟩, 8, 8, nmL⟩, r0S⟩ : Cl)], HA, b5⟩, ⟨by dsimp only; rw [List.map_append, hm]; rfl, fun c hc => by
    rcases List.mem_append.1 hc with h | h
    ·exact hg c h
    ·rw [List.mem_singleton.1 h]; exact clg_last, hr⟩, rfl, hw.pick (by repeat constructor)⟩
end Go.Proofs.YtmcpnoailbmkkaaGreatDoor
