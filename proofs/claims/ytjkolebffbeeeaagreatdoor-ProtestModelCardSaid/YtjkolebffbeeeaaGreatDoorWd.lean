/- Sets of strings, clauses: the program and the document; need. -/
import Derived.Test.YtjkolebffbeeeaaGreatDoorWc
namespace Go.Proofs.YtjkolebffbeeeaaGreatDoor
open Go Go.RowKit Go.Proofs
attribute [local irreducible] J JQ JL JA JD

set_option maxRecDepth 100000 in
set_option maxHeartbeats 4000000 in
theorem of63 (l : List ByteArray) (v : Value) (w : World) (hl : Arr 1 eS w v l) (hok : ∀ s ∈ l, okS s) (hn : l.length ≤ 1000) : Calls Tryz.prog 63 #[v] w (Ret w (fun _ : Nat => True) (fun b => .map (some b)) (fun b => [setB Tryz.prog 9 kS okS b l.reverse])) := by
 obtain ⟨A, cap, rfl, -, ⟨hlb, -⟩, hA⟩ := hl
 refine J_enter (fun _ => False) (vs := [.slice A l.length cap]) (k := 16) (l := [(0, .slice A l.length cap)]) Tryz.func63 rfl rfl Tryz.ntmps63 rfl rfl (Wd.start _) ?_
 refine s7 ?_
 refine aW (ow_makeSet (kt := 9) (kv := kS) (ok := okS) rfl rfl rfl (fun _ => by kernel_rfl)) (fun b6 hb6 => ?_)
 refine s12 ?_
 refine xL (T := Nat) (fun k => k ≤ l.length) (fun k => [(3, .map (some b6)), (7, .slice A l.length cap), (8, .int .i64 (l.length : Nat)), (9, .int .i64 (k : Nat))]) (fun k => [setB Tryz.prog 9 kS okS b6 (l.take k).reverse]) (fun k => l.length - k) 0 (Nat.zero_le _) ?_
 rintro k hk
 refine s3 ?_
 refine JL_dec (fun h10 => ?_) (fun h10 => ?_)
 ·refine s9 ?_
  have hlt : k < l.length := by omega
  obtain ⟨b, p, rfl, hh⟩ := hA (by intro e; subst e; simp at hlt)
  obtain ⟨y, hy⟩ : ∃ y, l[k]'hlt = y := ⟨_, rfl⟩
  have hyk : okS y := hok y (by rw [← hy]; exact List.getElem_mem _)
  have hsn : (l.take (k + 1)).reverse = y :: (l.take k).reverse := by rw [List.take_succ_eq_append_getElem hlt, hy, List.reverse_append]; rfl
  refine s2 ?_
  refine aV (vHold rfl rfl (fun h => h) hh hlt (by omega) (by rw [hy]; rfl)) ?_
  refine s6 ?_
  refine aW0 (ow_putS KS LBool y Und.h rfl rfl rfl rfl rfl rfl rfl (by repeat constructor) hyk (by rw [List.length_reverse, List.length_take]; omega)) ?_
  refine s3 ?_
  refine kJ [(3, _), (7, _), (8, _), (9, _)] ?_
  refine s4 ?_
  exact xR (k + 1) (by omega) (by omega) (hH := by (try dsimp only); rw [hsn]; repeat constructor)
 ·refine s10 ?_
  obtain rfl : k = l.length := by omega
  rw [List.take_length]
  refine kJ [(3, _)] ?_
  refine s6 ?_
  refine JR_one rfl (rr_tmp rfl) ?_
  intro w' hw
  exact ⟨b6, trivial, rfl, hw.pick (by repeat constructor)⟩
set_option maxRecDepth 100000 in
set_option maxHeartbeats 4000000 in
theorem any82 (x : ByteArray) (S : List ByteArray) (b c : Nat) (w : World) (hc : w.cell? ⟨c, 0, none⟩ = some (.map (some b))) (hS : (setB Tryz.prog 9 kS okS b S).holds w) (hx : okS x) : Calls Tryz.prog 82 #[.string x, .pointer (some ⟨c, 0, none⟩)] w (Back (.bool (decide (x ∈ S))) w) := by
 refine J_enter (fun _ => False) (vs := [.string x, .pointer (some ⟨c, 0, none⟩)]) (k := 5) (l := [(0, .string x), (1, .pointer (some ⟨c, 0, none⟩))]) Tryz.func82 rfl rfl Tryz.ntmps82 rfl rfl (Wd.start _) ?_
 refine s7 ?_
 refine aV (vOld rfl rfl (fun h => h) hc) ?_
 refine s1 ?_
 refine aV (rv_lookSO KS LBool x Und.h rfl rfl rfl (fun h => h) hS rfl hx) ?_
 refine s4 ?_
 refine JR_one rfl (rr_tmp rfl) ?_
 intro w' hw
 exact ⟨rfl, hw.bel⟩
set_option maxRecDepth 100000 in
set_option maxHeartbeats 4000000 in
theorem all111 (x : ByteArray) (S : List ByteArray) (b c : Nat) (w : World) (hc : w.cell? ⟨c, 0, none⟩ = some (.map (some b))) (hS : (setB Tryz.prog 9 kS okS b S).holds w) (hx : okS x) : Calls Tryz.prog 111 #[.string x, .pointer (some ⟨c, 0, none⟩)] w (Back (.bool (!decide (x ∈ S))) w) := by
 refine J_enter (fun _ => False) (vs := [.string x, .pointer (some ⟨c, 0, none⟩)]) (k := 6) (l := [(0, .string x), (1, .pointer (some ⟨c, 0, none⟩))]) Tryz.func111 rfl rfl Tryz.ntmps111 rfl rfl (Wd.start _) ?_
 refine s7 ?_
 refine aV (vOld rfl rfl (fun h => h) hc) ?_
 refine s1 ?_
 refine aV (rv_lookSO KS LBool x Und.h rfl rfl rfl (fun h => h) hS rfl hx) ?_
 refine s5 ?_
 refine JR_one rfl (rr_tmp rfl) ?_
 intro w' hw
 exact ⟨rfl, hw.bel⟩
set_option maxRecDepth 100000 in
set_option maxHeartbeats 4000000 in
theorem any64 (l S : List ByteArray) (v : Value) (b : Nat) (w : World) (hS : (setB Tryz.prog 9 kS okS b S).holds w) (hl : Arr 1 eS w v l) (hok : ∀ s ∈ l, okS s) : Calls Tryz.prog 64 #[.map (some b), v] w (Back (.bool (l.any (fun x => decide (x ∈ S)))) w) := by
 refine J_enter (fun _ => False) (vs := [.map (some b), v]) (k := 6) (l := [(0, .map (some b)), (1, v)]) Tryz.func64 rfl rfl Tryz.ntmps64 rfl rfl (Wd.start _) ?_
 refine s2 ?_
 refine aW (oX [_]) (fun b2 hb2 => ?_)
 refine s7 ?_
 refine aCB (fun w hw => ContainsFunc81 82 #[.pointer (some ⟨b2, 0, none⟩)] (fun x => decide (x ∈ S)) l v w (fun x hx W hW => any82 x S b b2 W (upc (cellB_get (hw.ok (cellB b2 [.map (some b)] 68) (by repeat constructor)).1 rfl) hW) (setB_up (setB_up hS hw.bel) hW) (hok x hx)) (hl.up ES hw.bel)) ?_
 refine s4 ?_
 refine JR_one rfl (rr_tmp rfl) ?_
 intro w' hw
 exact ⟨rfl, hw.bel⟩
theorem any_not (l S : List ByteArray) : l.all (fun x => decide (x ∈ S)) = !l.any (fun x => !decide (x ∈ S)) := by
 induction l with
 | nil => rfl
 | cons a l ih => simp [List.all_cons, List.any_cons, ih]
set_option maxRecDepth 100000 in
set_option maxHeartbeats 4000000 in
theorem all102 (l S : List ByteArray) (v : Value) (b : Nat) (w : World) (hS : (setB Tryz.prog 9 kS okS b S).holds w) (hl : Arr 1 eS w v l) (hok : ∀ s ∈ l, okS s) : Calls Tryz.prog 102 #[.map (some b), v] w (Back (.bool (l.all (fun x => decide (x ∈ S)))) w) := by
 refine J_enter (fun _ => False) (vs := [.map (some b), v]) (k := 7) (l := [(0, .map (some b)), (1, v)]) Tryz.func102 rfl rfl Tryz.ntmps102 rfl rfl (Wd.start _) ?_
 refine s2 ?_
 refine aW (oX [_]) (fun b2 hb2 => ?_)
 refine s7 ?_
 refine aCB (fun w hw => ContainsFunc81 111 #[.pointer (some ⟨b2, 0, none⟩)] (fun x => !decide (x ∈ S)) l v w (fun x hx W hW => all111 x S b b2 W (upc (cellB_get (hw.ok (cellB b2 [.map (some b)] 68) (by repeat constructor)).1 rfl) hW) (setB_up (setB_up hS hw.bel) hW) (hok x hx)) (hl.up ES hw.bel)) ?_
 refine s5 ?_
 refine JR_one rfl (rr_tmp rfl) ?_
 intro w' hw
 exact ⟨by rw [any_not], hw.bel⟩
theorem namesB_len {l : List ByteArray} {m : Int} (h : namesB l m = true) : (l.length : Int) ≤ m := by unfold namesB at h; simp at h; exact h.2
set_option maxRecDepth 100000 in
set_option maxHeartbeats 4000000 in
theorem CheckClause28 (c : Cl) (w : World) (hc : ClW w c) : Calls Tryz.prog 28 #[Clv c] w (Back (.bool (clB c)) w) := by
 refine J_enter (fun _ => False) (vs := [Clv c]) (k := 43) (l := [(0, Clv c)]) Tryz.func28 rfl rfl Tryz.ntmps28 rfl rfl (Wd.start _) ?_
 refine s2 ?_
 refine aW (oX [_, _, _, _, _, _]) (fun b1 hb1 => ?_)
 refine s4 ?_
 refine xD [0, 1, 2] [1, 5, 10, 13] ?_
 refine s2 ?_
 refine dCB rfl (fun w hw => rising62 c.fs.l 8 _ w (hc.up hw.bel).fs hc.fk) ?_
 refine dBool (fun h6 => ?_) (fun h6 => ?_)
 ·refine dO [3, 4, 5, 6] ?_
  refine s3 ?_
  refine dCB rfl (fun w hw => rising62 c.us.l 8 _ w (hc.up hw.bel).us hc.uk) ?_
  refine dBool (fun h10 => ?_) (fun h10 => ?_)
  ·refine dO [7, 8, 9, 10, 12, 13, 11, 14] ?_
   refine s6 ?_
   refine dW rfl (oR (fun w hw => of63 c.fs.l _ w (hc.up hw.bel).fs hc.fk (by have := namesB_len h6; omega))) (fun b15 _ => ?_)
   refine dCB rfl (fun w hw => any64 c.us.l c.fs.l.reverse _ b15 w (hw.ok (setB Tryz.prog 9 kS okS b15 c.fs.l.reverse) (by repeat constructor)).1 (hc.up hw.bel).us hc.uk) ?_
   refine dBool (fun h18 => ?_) (fun h18 => ?_)
   ·simp only [List.mem_reverse] at h18
    refine dO [15, 16, 17] ?_
    refine s6 ?_
    refine kJ [(1, _), (3, _)] ?_
    refine s28 ?_
    refine JR_one rfl (rr_tmp rfl) ?_
    intro w' hw
    have e : clB c = false := by unfold clB; rw [any_comm c.fs.l c.us.l, h6, h10, h18] <;> simp
    rw [e]; exact ⟨rfl, hw.bel⟩
   ·simp only [List.mem_reverse] at h18
    refine dO [15, 16, 17] ?_
    refine s6 ?_
    refine kJ [(1, _), (3, _)] ?_
    refine s5 ?_
    refine aCB (fun w hw => named42 c.n w hc.nk) ?_
    refine JL_bool (fun h25 => ?_) (fun h25 => ?_)
    ·refine s4 ?_
     refine aCB (fun w hw => named42 c.th w hc.tk) ?_
     refine JL_bool (fun h30 => ?_) (fun h30 => ?_)
     ·refine s6 ?_
      refine aCB (fun w hw => within65 _ _ _ w) ?_
      refine JL_dec (fun h37 => ?_) (fun h37 => ?_)
      ·refine s5 ?_
       refine JL_dec (fun h42 => ?_) (fun h42 => ?_)
       ·refine s5 ?_
        refine JR_one rfl (rr_tmp rfl) ?_
        intro w' hw
        have e : clB c = true := by unfold clB; rw [any_comm c.fs.l c.us.l, h6, h10, h18, h25, h30, decide_eq_true h37, decide_eq_true h42] <;> simp
        rw [e]; exact ⟨rfl, hw.bel⟩
       ·refine s5 ?_
        refine JR_one rfl (rr_tmp rfl) ?_
        intro w' hw
        have e : clB c = false := by unfold clB; rw [any_comm c.fs.l c.us.l, h6, h10, h18, h25, h30, decide_eq_true h37, decide_eq_false h42] <;> simp
        rw [e]; exact ⟨rfl, hw.bel⟩
      ·refine s10 ?_
       refine JR_one rfl (rr_tmp rfl) ?_
       intro w' hw
       have e : clB c = false := by unfold clB; rw [any_comm c.fs.l c.us.l, h6, h10, h18, h25, h30, decide_eq_false h37] <;> simp
       rw [e]; exact ⟨rfl, hw.bel⟩
     ·refine s17 ?_
      refine JR_one rfl (rr_tmp rfl) ?_
      intro w' hw
      have e : clB c = false := by unfold clB; rw [any_comm c.fs.l c.us.l, h6, h10, h18, h25, h30] <;> simp
      rw [e]; exact ⟨rfl, hw.bel⟩
    ·refine s22 ?_
     refine JR_one rfl (rr_tmp rfl) ?_
     intro w' hw
     have e : clB c = false := by unfold clB; rw [any_comm c.fs.l c.us.l, h6, h10, h18, h25] <;> simp
     rw [e]; exact ⟨rfl, hw.bel⟩
  ·refine dO [7, 8, 9, 10, 11, 12, 13, 14, 15, 16, 17] ?_
   refine s14 ?_
   refine kJ [(1, _), (3, _)] ?_
   refine s28 ?_
   refine JR_one rfl (rr_tmp rfl) ?_
   intro w' hw
   have e : clB c = false := by unfold clB; rw [h6, h10] <;> simp
   rw [e]; exact ⟨rfl, hw.bel⟩
 ·refine dO [3, 4, 5, 6, 7, 8, 9, 10, 11, 12, 13, 14, 15, 16, 17] ?_
  refine s18 ?_
  refine kJ [(1, _), (3, _)] ?_
  refine s28 ?_
  refine JR_one rfl (rr_tmp rfl) ?_
  intro w' hw
  have e : clB c = false := by unfold clB; rw [h6] <;> simp
  rw [e]; exact ⟨rfl, hw.bel⟩
end Go.Proofs.YtjkolebffbeeeaaGreatDoor
