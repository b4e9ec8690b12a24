/- Clauses by the document; need. -/
import Derived.Test.YtjkolebffbeeeaaGreatDoorWd
namespace Go.Proofs.YtjkolebffbeeeaaGreatDoor
open Go Go.RowKit Go.Proofs
attribute [local irreducible] J JQ JL JA JD

/-- A refusal. -/
abbrev Mis (at_ e : Int) : List PanicEntry := [{ v := .iface 101 (.agg #[.int .i64 at_, .int .i64 e]), recovered := false }]
/-- A call that is refused. -/
abbrev Fails (at_ e : Int) (w : World) (r : Ending) (w' : World) : Prop := r = .panicked (Mis at_ e) ∧ Below w.heap.size w w'
set_option maxRecDepth 100000 in
set_option maxHeartbeats 4000000 in
theorem need_yes (a e : Int) (w : World) : Calls Tryz.prog 41 #[.bool true, .int .i64 a, .int .i64 e] w (Back (.tuple #[]) w) := by
 refine J_enter (fun _ => False) (vs := [.bool true, .int .i64 a, .int .i64 e]) (k := 9) (l := [(0, .bool true), (1, .int .i64 a), (2, .int .i64 e)]) Tryz.func41 rfl rfl Tryz.ntmps41 rfl rfl (Wd.start _) ?_
 refine s8 ?_
 refine JR_end rfl ?_
 intro w' hw
 exact ⟨rfl, hw.bel⟩
set_option maxRecDepth 100000 in
set_option maxHeartbeats 4000000 in
theorem need_no (a e : Int) (w : World) : Calls Tryz.prog 41 #[.bool false, .int .i64 a, .int .i64 e] w (Fails a e w) := by
 refine J_enter (fun _ => False) (vs := [.bool false, .int .i64 a, .int .i64 e]) (k := 9) (l := [(0, .bool false), (1, .int .i64 a), (2, .int .i64 e)]) Tryz.func41 rfl rfl Tryz.ntmps41 rfl rfl (Wd.start _) ?_
 refine s10 ?_
 refine aP (rp_buildC (fun us => [us.getD 0 undef, us.getD 1 undef]) rfl rfl (fun w => by kernel_rfl)) ?_
 refine aP (pIface (fun _ => by kernel_rfl) rfl rfl) ?_
 refine aPanic rfl rfl ?_
 refine JR_panic ?_
 intro w' hw
 exact ⟨rfl, hw.bel⟩
set_option maxRecDepth 100000 in
set_option maxHeartbeats 4000000 in
theorem CheckClause29 (c : Cl) (w : World) (hc : ClW w c) : Calls Tryz.prog 29 #[Clv c] w (Back (.bool (clB c)) w) := by
 obtain ⟨cn, cf, ct, ⟨fA, fn, fc, fl⟩, ⟨uA, un, uc, ul⟩, th⟩ := c
 obtain ⟨hfs, hus, hfk, huk, -, -⟩ := hc
 obtain rfl : fn = fl.length := dv_nc hfs
 dsimp only [Dv.v] at hfs hus hfk huk
 obtain ⟨A, cap, eA, -, ⟨hlb, -⟩, hA⟩ := id hfs
 injection eA with eA1 eA2 eA3
 rw [← eA1] at hA
 obtain ⟨cb, hcb⟩ : ∃ b, clB ⟨cn, cf, ct, ⟨fA, fl.length, fc, fl⟩, ⟨uA, un, uc, ul⟩, th⟩ = b := ⟨_, rfl⟩
 rw [hcb]
 refine J_enter (fun _ => False) (vs := [.agg #[.string cn, .int .i64 cf, .int .i64 ct, .slice fA fl.length fc, .slice uA un uc, .string th]]) (k := 53) (l := [(0, .agg #[.string cn, .int .i64 cf, .int .i64 ct, .slice fA fl.length fc, .slice uA un uc, .string th])]) Tryz.func29 rfl rfl Tryz.ntmps29 rfl rfl (Wd.start _) ?_
 refine s2 ?_
 refine aW (oX [_, _, _, _, _, _]) (fun b1 hb1 => ?_)
 refine s8 ?_
 refine aCB (fun w hw => Name46 cn w) ?_
 refine JL_bool (fun h6 => ?_) (fun h6 => ?_)
 ·refine s4 ?_
  refine aCB (fun w hw => Name46 th w) ?_
  refine JL_bool (fun h11 => ?_) (fun h11 => ?_)
  ·refine s7 ?_
   refine aCB (fun w hw => in58 _ _ _ w) ?_
   refine JL_dec (fun h19 => ?_) (fun h19 => ?_)
   ·refine s6 ?_
    refine JL_dec (fun h25 => ?_) (fun h25 => ?_)
    ·refine s17 ?_
     refine kJ [] ?_
     refine s6 ?_
     refine JR_one rfl (rr_tmp rfl) ?_
     intro w' hw
     have e : cb = false := by rw [← hcb]; unfold clB; dsimp only; rw [h6, h11, decide_eq_true h19, decide_eq_false (by omega : ¬ ct ≤ 1000)] <;> simp
     rw [e]; exact ⟨rfl, hw.bel⟩
    ·refine s4 ?_
     refine aCB (fun w hw => names66 fl 8 _ w (hfs.up ES hw.bel) hfk) ?_
     refine JL_bool (fun h30 => ?_) (fun h30 => ?_)
     ·refine s5 ?_
      refine aCB (fun w hw => names66 ul 8 _ w (hus.up ES hw.bel) huk) ?_
      refine JL_bool (fun h36 => ?_) (fun h36 => ?_)
      ·refine s9 ?_
       refine kJ [(1, _)] ?_
       refine s5 ?_
       refine xL (T := Nat) (fun k => k ≤ fl.length ∧ (fl.take k).any (fun x => decide (x ∈ ul)) = false) (fun k => [(1, .pointer (some ⟨b1, 0, none⟩)), (3, .int .i64 (k : Nat))]) (fun k => [cellB b1 [.string cn, .int .i64 cf, .int .i64 ct, .slice fA fl.length fc, .slice uA un uc, .string th] 40]) (fun k => fl.length - k) 0 ⟨Nat.zero_le _, rfl⟩ ?_
       rintro k ⟨hk, hno⟩
       refine s8 ?_
       refine JL_dec (fun h43 => ?_) (fun h43 => ?_)
       ·refine s8 ?_
        have hlt : k < fl.length := by omega
        obtain ⟨b, p, rfl, hh⟩ := hA (by intro e; rw [e] at hlt; simp at hlt)
        obtain ⟨y, hy⟩ : ∃ y, fl[k]'hlt = y := ⟨_, rfl⟩
        refine kJ [(1, _), (3, _)] ?_
        refine xD [0, 1, 2, 3, 4, 5, 6, 7] [1, 3, 6] ?_
        refine s6 ?_
        refine dL rfl (vHold rfl rfl (fun h => h) hh hlt (by omega) (by rw [hy]; rfl)) ?_
        refine dCB rfl (fun w hw => Has22 ul y _ w (hus.up ES hw.bel)) ?_
        refine dBool (fun h53 => ?_) (fun h53 => ?_)
        ·refine dO [] ?_
         refine s4 ?_
         refine kJ [] ?_
         refine s10 ?_
         refine JR_one rfl (rr_tmp rfl) ?_
         intro w' hw
         have ha : fl.any (fun x => decide (x ∈ ul)) = true := List.any_eq_true.2 ⟨y, by rw [← hy]; exact List.getElem_mem _, h53⟩
         have e : cb = false := by rw [← hcb]; unfold clB; dsimp only; rw [ha] <;> simp
         rw [e]; exact ⟨rfl, hw.bel⟩
        ·refine dO [] ?_
         refine s6 ?_
         refine kJ [(1, _), (3, _)] ?_
         refine s5 ?_
         have hn : (fl.take (k + 1)).any (fun x => decide (x ∈ ul)) = false := by rw [List.take_succ_eq_append_getElem hlt, hy, List.any_append, hno]; simp [of_decide_eq_false h53]
         exact xR (k + 1) ⟨by omega, hn⟩ (by omega)
       ·refine s9 ?_
        refine kJ [] ?_
        refine s5 ?_
        refine JR_one rfl (rr_tmp rfl) ?_
        intro w' hw
        obtain rfl : k = fl.length := by omega
        rw [List.take_length] at hno
        have e : cb = true := by rw [← hcb]; unfold clB; dsimp only; rw [hno, h6, h11, h30, h36, decide_eq_true h19, decide_eq_true (by omega : ct ≤ 1000)] <;> simp
        rw [e]; exact ⟨rfl, hw.bel⟩
      ·refine s6 ?_
       refine kJ [] ?_
       refine s6 ?_
       refine JR_one rfl (rr_tmp rfl) ?_
       intro w' hw
       have e : cb = false := by rw [← hcb]; unfold clB; dsimp only; rw [h6, h11, h30, h36, decide_eq_true h19, decide_eq_true (by omega : ct ≤ 1000)] <;> simp
       rw [e]; exact ⟨rfl, hw.bel⟩
     ·refine s12 ?_
      refine kJ [] ?_
      refine s6 ?_
      refine JR_one rfl (rr_tmp rfl) ?_
      intro w' hw
      have e : cb = false := by rw [← hcb]; unfold clB; dsimp only; rw [h6, h11, h30, decide_eq_true h19, decide_eq_true (by omega : ct ≤ 1000)] <;> simp
      rw [e]; exact ⟨rfl, hw.bel⟩
   ·refine s23 ?_
    refine kJ [] ?_
    refine s6 ?_
    refine JR_one rfl (rr_tmp rfl) ?_
    intro w' hw
    have e : cb = false := by rw [← hcb]; unfold clB; dsimp only; rw [h6, h11, decide_eq_false h19] <;> simp
    rw [e]; exact ⟨rfl, hw.bel⟩
  ·refine s31 ?_
   refine kJ [] ?_
   refine s6 ?_
   refine JR_one rfl (rr_tmp rfl) ?_
   intro w' hw
   have e : cb = false := by rw [← hcb]; unfold clB; dsimp only; rw [h6, h11] <;> simp
   rw [e]; exact ⟨rfl, hw.bel⟩
 ·refine s36 ?_
  refine kJ [] ?_
  refine s6 ?_
  refine JR_one rfl (rr_tmp rfl) ?_
  intro w' hw
  have e : cb = false := by rw [← hcb]; unfold clB; dsimp only; rw [h6] <;> simp
  rw [e]; exact ⟨rfl, hw.bel⟩
end Go.Proofs.YtjkolebffbeeeaaGreatDoor
