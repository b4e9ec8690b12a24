/- The law: great. -/
import Derived.Test.YtjkolebffbeeeaaGreatDoorWo
namespace Go.Proofs.YtjkolebffbeeeaaGreatDoor
open Go Go.RowKit Go.Proofs
attribute [local irreducible] J JQ JL JA JD

abbrev W6 (a : Int) : Int := IntKind.i64.wrap a
theorem pAddW {P : Program} {n : Nat} {l : Sl} {o : Oper} {x y : Operand} {t ty : TypeId} {a b : Int} (ho : o.op = .binOp .add t x y ty) (hx : evl l x = some (.int .i64 a)) (hy : evl l y = some (.int .i64 b)) : RP P n l o (.int .i64 (W6 (a + b))) := rp2 hx hy (fun ρ h1 h2 w => by
 unfold execOp
 simp only [ho, h1, h2]
 go_simp)
theorem pQuoW {P : Program} {n : Nat} {l : Sl} {o : Oper} {x : Operand} {t ty : TypeId} {a : Int} (ho : o.op = .binOp .quo t x (.const (.int .i64 50)) ty) (hx : evl l x = some (.int .i64 a)) : RP P n l o (.int .i64 (W6 (Int.tdiv a 50))) := rp2 hx (y := .const (.int .i64 50)) rfl (fun ρ h1 h2 w => by
 unfold execOp
 simp only [ho, h1, h2]
 go_simp)
def grS (n : Int) (l : List Cl) : Int := l.foldl (fun n c => W6 (W6 (W6 (n + (c.fs.l.length : Nat)) + (c.us.l.length : Nat)) + W6 (Int.tdiv (W6 ((c.n.size : Nat) + (c.th.size : Nat))) 50))) n
theorem grS_s {n : Int} {l : List Cl} {k : Nat} {c : Cl} (h : k < l.length) (hc : l[k]'h = c) : grS n (l.take (k + 1)) = W6 (W6 (W6 (grS n (l.take k) + (c.fs.l.length : Nat)) + (c.us.l.length : Nat)) + W6 (Int.tdiv (W6 ((c.n.size : Nat) + (c.th.size : Nat))) 50)) := by
 unfold grS; rw [List.take_succ_eq_append_getElem h, List.foldl_append, hc]; rfl
/-- Whether a book and facts are more than a statement looks at. -/
def greB (Bk : List Cl) (l : List ByteArray) : Bool := (l.take 100).any (fun s => decide (100 < s.size)) || decide (70 < Bk.length) || decide (70 < l.length) || decide (300 < grS (l.length : Nat) (Bk.take 100))
set_option maxRecDepth 100000 in
set_option maxHeartbeats 4000000 in
theorem great10 (Bk : List Cl) (BA : Option Addr) (bc : Nat) (l : List ByteArray) (lA : Option Addr) (lc : Nat) (w : World) (hB : Arr 6 eC w (.slice BA Bk.length bc) Bk) (hcl : ∀ c ∈ Bk, ClW w c) (hl : Arr 1 eS w (.slice lA l.length lc) l) : Calls Tryz.prog 10 #[.slice BA Bk.length bc, .slice lA l.length lc] w (Back (.bool (greB Bk l)) w) := by
 obtain ⟨hlb, hlA⟩ := arr_parts hl
 obtain ⟨hBb, hBA⟩ := arr_partsC hB
 refine J_enter (fun _ => False) (vs := [.slice BA Bk.length bc, .slice lA l.length lc]) (k := 76) (l := [(0, .slice BA Bk.length bc), (1, .slice lA l.length lc)]) Tryz.func10 rfl rfl Tryz.ntmps10 rfl rfl (Wd.start _) ?_
 refine s19 ?_
 refine xL (T := Nat) (fun k => k ≤ Bk.length ∧ k ≤ 100) (fun k => [(0, .slice BA Bk.length bc), (1, .slice lA l.length lc), (5, .int .i64 (grS (l.length : Nat) (Bk.take k))), (6, .int .i64 (k : Nat))]) (fun k => []) (fun k => Bk.length - k) 0 ⟨Nat.zero_le _, Nat.zero_le _⟩ ?_ (hl := ⟨rfl, rfl, rfl, rfl, trivial⟩)
 rintro k ⟨hk, hk1⟩
 refine s7 ?_
 refine JL_dec (fun h13 => ?_) (fun h13 => ?_)
 ·refine s3 ?_
  refine JL_dec (fun h16 => ?_) (fun h16 => ?_)
  ·refine s8 ?_
   have hlt : k < Bk.length := by omega
   obtain ⟨bB, pB, rfl, hhB⟩ := hBA (by intro e; subst e; simp at hlt)
   obtain ⟨⟨cn, cf, ct, ⟨fA, fn, fc, fl⟩, ⟨uA, un, uc, ul⟩, th⟩, hc⟩ : ∃ c, Bk[k]'hlt = c := ⟨_, rfl⟩
   have hcm : (⟨cn, cf, ct, ⟨fA, fn, fc, fl⟩, ⟨uA, un, uc, ul⟩, th⟩ : Cl) ∈ Bk := by rw [← hc]; exact List.getElem_mem _
   obtain ⟨hfs, hus, hfk, huk, hnk, htk⟩ := hcl _ hcm
   obtain rfl : fn = fl.length := dv_nc hfs
   obtain rfl : un = ul.length := dv_nc hus
   dsimp only [Dv.v] at hfs hus hfk huk hnk htk
   obtain ⟨hfb, hfA⟩ := arr_parts hfs
   obtain ⟨hub, huA⟩ := arr_parts hus
   refine kJ [(0, _), (1, _), (5, _), (6, _)] ?_
   refine xD [0, 1, 2, 3, 4, 5, 6, 7, 8, 9, 10, 11, 12, 13, 14, 15, 16, 17, 18, 19, 20, 21, 22, 23, 24, 25, 26, 27, 28, 29, 30] [5, 12, 19, 25] ?_
   refine s5 ?_
   refine dL rfl (vHold (v := .slice fA fl.length fc) rfl rfl (fun h => h) hhB hlt (by omega) (by rw [hc]; rfl)) ?_
   refine s1 ?_
   refine dP rfl (pAddW rfl rfl rfl) ?_
   refine s4 ?_
   refine dL rfl (vHold (v := .slice uA ul.length uc) rfl rfl (fun h => h) hhB hlt (by omega) (by rw [hc]; rfl)) ?_
   refine s1 ?_
   refine dP rfl (pAddW rfl rfl rfl) ?_
   refine s4 ?_
   refine dL rfl (vHold (v := .string cn) rfl rfl (fun h => h) hhB hlt (by omega) (by rw [hc]; rfl)) ?_
   refine s5 ?_
   refine dL rfl (vHold (v := .string th) rfl rfl (fun h => h) hhB hlt (by omega) (by rw [hc]; rfl)) ?_
   refine s1 ?_
   refine dP rfl (pAddW rfl rfl rfl) ?_
   refine dP rfl (pQuoW rfl rfl) ?_
   refine dP rfl (pAddW rfl rfl rfl) ?_
   refine s4 ?_
   refine kJ [(0, _), (1, _), (5, _), (6, _)] ?_
   refine s5 ?_
   have hs := grS_s (n := (l.length : Nat)) hlt hc
   dsimp only at hs
   exact xR (k + 1) ⟨by omega, by omega⟩ (by omega) (hl := ⟨rfl, rfl, (by rw [hs]; rfl), (congrArg some (by go_num)), trivial⟩)
  ·refine s11 ?_
   have hkm : Bk.take k = Bk.take 100 := by
    by_cases h : k = 100
    ·rw [h]
    ·rw [List.take_of_length_le (by omega), List.take_of_length_le (by omega)]
   rw [hkm]
   refine kJ [(0, _), (1, _), (5, _)] ?_
   refine s5 ?_
   refine xL (T := Nat) (fun j => (j ≤ l.length ∧ j ≤ 100) ∧ (l.take 100).any (fun s => decide (100 < s.size)) = ((l.take 100).drop j).any (fun s => decide (100 < s.size))) (fun j => [(0, .slice BA Bk.length bc), (1, .slice lA l.length lc), (5, .int .i64 (grS (l.length : Nat) (Bk.take 100))), (7, .int .i64 (j : Nat))]) (fun j => []) (fun j => l.length - j) 0 ⟨⟨Nat.zero_le _, Nat.zero_le _⟩, rfl⟩ ?_
   rintro j ⟨⟨hj, hj1⟩, hany⟩
   refine s7 ?_
   refine JL_dec (fun h53 => ?_) (fun h53 => ?_)
   ·refine s3 ?_
    refine JL_dec (fun h56 => ?_) (fun h56 => ?_)
    ·refine s9 ?_
     have hlty : j < l.length := by omega
     obtain ⟨bqy, pqy, rfl, hhl⟩ := hlA (by intro e; subst e; simp at hlty)
     obtain ⟨y, hy⟩ : ∃ y, l[j]'hlty = y := ⟨_, rfl⟩
     have hmy : y ∈ l := by rw [← hy]; exact List.getElem_mem _
     refine kJ [(0, _), (1, _), (5, _), (7, _)] ?_
     refine s4 ?_
     refine aV (vHold rfl rfl (fun h => h) hhl hlty (by omega) (by rw [hy]; rfl)) ?_
     refine s2 ?_
     refine JL_dec (fun h65 => ?_) (fun h65 => ?_)
     ·refine s4 ?_
      refine kJ [] ?_
      refine s10 ?_
      refine JR_one rfl (rr_tmp rfl) ?_
      intro w' hw
      have e : greB Bk l = true := by unfold greB; rw [hany, List.drop_eq_getElem_cons (show j < (l.take 100).length by rw [List.length_take]; omega), List.getElem_take, hy, List.any_cons]; simp; exact .inl (.inl (.inl (.inl (by omega))))
      rw [e]; exact ⟨rfl, hw.bel⟩
     ·refine s6 ?_
      refine kJ [(0, _), (1, _), (5, _), (7, _)] ?_
      refine s5 ?_
      have hn : (l.take 100).any (fun s => decide (100 < s.size)) = ((l.take 100).drop (j + 1)).any (fun s => decide (100 < s.size)) := by rw [hany, List.drop_eq_getElem_cons (show j < (l.take 100).length by rw [List.length_take]; omega), List.getElem_take, hy, List.any_cons]; simp; intro h; omega
      exact xR (j + 1) ⟨⟨by omega, by omega⟩, hn⟩ (by omega) (hl := ⟨rfl, rfl, rfl, (congrArg some (by go_num)), trivial⟩)
    ·refine s10 ?_
     refine kJ [(0, _), (1, _), (5, _)] ?_
     refine s4 ?_
     refine JL_dec (fun h68 => ?_) (fun h68 => ?_)
     ·refine s13 ?_
      refine JR_one rfl (rr_tmp rfl) ?_
      intro w' hw
      have hf : (l.take 100).any (fun s => decide (100 < s.size)) = false := by rw [hany, List.drop_eq_nil_of_le (by rw [List.length_take]; omega)]; rfl
      have e : greB Bk l = true := by unfold greB; rw [hf]; simp; omega
      rw [e]; exact ⟨rfl, hw.bel⟩
     ·refine s4 ?_
      refine JL_dec (fun h72 => ?_) (fun h72 => ?_)
      ·refine s9 ?_
       refine JR_one rfl (rr_tmp rfl) ?_
       intro w' hw
       have hf : (l.take 100).any (fun s => decide (100 < s.size)) = false := by rw [hany, List.drop_eq_nil_of_le (by rw [List.length_take]; omega)]; rfl
       have e : greB Bk l = true := by unfold greB; rw [hf]; simp; omega
       rw [e]; exact ⟨rfl, hw.bel⟩
      ·refine s4 ?_
       refine JL_dec (fun h76 => ?_) (fun h76 => ?_)
       ·refine s5 ?_
        refine JR_one rfl (rr_tmp rfl) ?_
        intro w' hw
        have hf : (l.take 100).any (fun s => decide (100 < s.size)) = false := by rw [hany, List.drop_eq_nil_of_le (by rw [List.length_take]; omega)]; rfl
        have e : greB Bk l = true := by unfold greB; rw [hf]; simp; omega
        rw [e]; exact ⟨rfl, hw.bel⟩
       ·refine s5 ?_
        refine JR_one rfl (rr_tmp rfl) ?_
        intro w' hw
        have hf : (l.take 100).any (fun s => decide (100 < s.size)) = false := by rw [hany, List.drop_eq_nil_of_le (by rw [List.length_take]; omega)]; rfl
        have e : greB Bk l = false := by unfold greB; rw [hf]; simp; omega
        rw [e]; exact ⟨rfl, hw.bel⟩
   ·refine s13 ?_
    refine kJ [(0, _), (1, _), (5, _)] ?_
    refine s4 ?_
    refine JL_dec (fun h68 => ?_) (fun h68 => ?_)
    ·refine s13 ?_
     refine JR_one rfl (rr_tmp rfl) ?_
     intro w' hw
     have hf : (l.take 100).any (fun s => decide (100 < s.size)) = false := by rw [hany, List.drop_eq_nil_of_le (by rw [List.length_take]; omega)]; rfl
     have e : greB Bk l = true := by unfold greB; rw [hf]; simp; omega
     rw [e]; exact ⟨rfl, hw.bel⟩
    ·refine s4 ?_
     refine JL_dec (fun h72 => ?_) (fun h72 => ?_)
     ·refine s9 ?_
      refine JR_one rfl (rr_tmp rfl) ?_
      intro w' hw
      have hf : (l.take 100).any (fun s => decide (100 < s.size)) = false := by rw [hany, List.drop_eq_nil_of_le (by rw [List.length_take]; omega)]; rfl
      have e : greB Bk l = true := by unfold greB; rw [hf]; simp; omega
      rw [e]; exact ⟨rfl, hw.bel⟩
     ·refine s4 ?_
      refine JL_dec (fun h76 => ?_) (fun h76 => ?_)
      ·refine s5 ?_
       refine JR_one rfl (rr_tmp rfl) ?_
       intro w' hw
       have hf : (l.take 100).any (fun s => decide (100 < s.size)) = false := by rw [hany, List.drop_eq_nil_of_le (by rw [List.length_take]; omega)]; rfl
       have e : greB Bk l = true := by unfold greB; rw [hf]; simp; omega
       rw [e]; exact ⟨rfl, hw.bel⟩
      ·refine s5 ?_
       refine JR_one rfl (rr_tmp rfl) ?_
       intro w' hw
       have hf : (l.take 100).any (fun s => decide (100 < s.size)) = false := by rw [hany, List.drop_eq_nil_of_le (by rw [List.length_take]; omega)]; rfl
       have e : greB Bk l = false := by unfold greB; rw [hf]; simp; omega
       rw [e]; exact ⟨rfl, hw.bel⟩
 ·refine s14 ?_
  have hkm : Bk.take k = Bk.take 100 := by
   by_cases h : k = 100
   ·rw [h]
   ·rw [List.take_of_length_le (by omega), List.take_of_length_le (by omega)]
  rw [hkm]
  refine kJ [(0, _), (1, _), (5, _)] ?_
  refine s5 ?_
  refine xL (T := Nat) (fun j => (j ≤ l.length ∧ j ≤ 100) ∧ (l.take 100).any (fun s => decide (100 < s.size)) = ((l.take 100).drop j).any (fun s => decide (100 < s.size))) (fun j => [(0, .slice BA Bk.length bc), (1, .slice lA l.length lc), (5, .int .i64 (grS (l.length : Nat) (Bk.take 100))), (7, .int .i64 (j : Nat))]) (fun j => []) (fun j => l.length - j) 0 ⟨⟨Nat.zero_le _, Nat.zero_le _⟩, rfl⟩ ?_
  rintro j ⟨⟨hj, hj1⟩, hany⟩
  refine s7 ?_
  refine JL_dec (fun h53 => ?_) (fun h53 => ?_)
  ·refine s3 ?_
   refine JL_dec (fun h56 => ?_) (fun h56 => ?_)
   ·refine s9 ?_
    have hlty : j < l.length := by omega
    obtain ⟨bqy, pqy, rfl, hhl⟩ := hlA (by intro e; subst e; simp at hlty)
    obtain ⟨y, hy⟩ : ∃ y, l[j]'hlty = y := ⟨_, rfl⟩
    have hmy : y ∈ l := by rw [← hy]; exact List.getElem_mem _
    refine kJ [(0, _), (1, _), (5, _), (7, _)] ?_
    refine s4 ?_
    refine aV (vHold rfl rfl (fun h => h) hhl hlty (by omega) (by rw [hy]; rfl)) ?_
    refine s2 ?_
    refine JL_dec (fun h65 => ?_) (fun h65 => ?_)
    ·refine s4 ?_
     refine kJ [] ?_
     refine s10 ?_
     refine JR_one rfl (rr_tmp rfl) ?_
     intro w' hw
     have e : greB Bk l = true := by unfold greB; rw [hany, List.drop_eq_getElem_cons (show j < (l.take 100).length by rw [List.length_take]; omega), List.getElem_take, hy, List.any_cons]; simp; exact .inl (.inl (.inl (.inl (by omega))))
     rw [e]; exact ⟨rfl, hw.bel⟩
    ·refine s6 ?_
     refine kJ [(0, _), (1, _), (5, _), (7, _)] ?_
     refine s5 ?_
     have hn : (l.take 100).any (fun s => decide (100 < s.size)) = ((l.take 100).drop (j + 1)).any (fun s => decide (100 < s.size)) := by rw [hany, List.drop_eq_getElem_cons (show j < (l.take 100).length by rw [List.length_take]; omega), List.getElem_take, hy, List.any_cons]; simp; intro h; omega
     exact xR (j + 1) ⟨⟨by omega, by omega⟩, hn⟩ (by omega) (hl := ⟨rfl, rfl, rfl, (congrArg some (by go_num)), trivial⟩)
   ·refine s10 ?_
    refine kJ [(0, _), (1, _), (5, _)] ?_
    refine s4 ?_
    refine JL_dec (fun h68 => ?_) (fun h68 => ?_)
    ·refine s13 ?_
     refine JR_one rfl (rr_tmp rfl) ?_
     intro w' hw
     have hf : (l.take 100).any (fun s => decide (100 < s.size)) = false := by rw [hany, List.drop_eq_nil_of_le (by rw [List.length_take]; omega)]; rfl
     have e : greB Bk l = true := by unfold greB; rw [hf]; simp; omega
     rw [e]; exact ⟨rfl, hw.bel⟩
    ·refine s4 ?_
     refine JL_dec (fun h72 => ?_) (fun h72 => ?_)
     ·refine s9 ?_
      refine JR_one rfl (rr_tmp rfl) ?_
      intro w' hw
      have hf : (l.take 100).any (fun s => decide (100 < s.size)) = false := by rw [hany, List.drop_eq_nil_of_le (by rw [List.length_take]; omega)]; rfl
      have e : greB Bk l = true := by unfold greB; rw [hf]; simp; omega
      rw [e]; exact ⟨rfl, hw.bel⟩
     ·refine s4 ?_
      refine JL_dec (fun h76 => ?_) (fun h76 => ?_)
      ·refine s5 ?_
       refine JR_one rfl (rr_tmp rfl) ?_
       intro w' hw
       have hf : (l.take 100).any (fun s => decide (100 < s.size)) = false := by rw [hany, List.drop_eq_nil_of_le (by rw [List.length_take]; omega)]; rfl
       have e : greB Bk l = true := by unfold greB; rw [hf]; simp; omega
       rw [e]; exact ⟨rfl, hw.bel⟩
      ·refine s5 ?_
       refine JR_one rfl (rr_tmp rfl) ?_
       intro w' hw
       have hf : (l.take 100).any (fun s => decide (100 < s.size)) = false := by rw [hany, List.drop_eq_nil_of_le (by rw [List.length_take]; omega)]; rfl
       have e : greB Bk l = false := by unfold greB; rw [hf]; simp; omega
       rw [e]; exact ⟨rfl, hw.bel⟩
  ·refine s13 ?_
   refine kJ [(0, _), (1, _), (5, _)] ?_
   refine s4 ?_
   refine JL_dec (fun h68 => ?_) (fun h68 => ?_)
   ·refine s13 ?_
    refine JR_one rfl (rr_tmp rfl) ?_
    intro w' hw
    have hf : (l.take 100).any (fun s => decide (100 < s.size)) = false := by rw [hany, List.drop_eq_nil_of_le (by rw [List.length_take]; omega)]; rfl
    have e : greB Bk l = true := by unfold greB; rw [hf]; simp; omega
    rw [e]; exact ⟨rfl, hw.bel⟩
   ·refine s4 ?_
    refine JL_dec (fun h72 => ?_) (fun h72 => ?_)
    ·refine s9 ?_
     refine JR_one rfl (rr_tmp rfl) ?_
     intro w' hw
     have hf : (l.take 100).any (fun s => decide (100 < s.size)) = false := by rw [hany, List.drop_eq_nil_of_le (by rw [List.length_take]; omega)]; rfl
     have e : greB Bk l = true := by unfold greB; rw [hf]; simp; omega
     rw [e]; exact ⟨rfl, hw.bel⟩
    ·refine s4 ?_
     refine JL_dec (fun h76 => ?_) (fun h76 => ?_)
     ·refine s5 ?_
      refine JR_one rfl (rr_tmp rfl) ?_
      intro w' hw
      have hf : (l.take 100).any (fun s => decide (100 < s.size)) = false := by rw [hany, List.drop_eq_nil_of_le (by rw [List.length_take]; omega)]; rfl
      have e : greB Bk l = true := by unfold greB; rw [hf]; simp; omega
      rw [e]; exact ⟨rfl, hw.bel⟩
     ·refine s5 ?_
      refine JR_one rfl (rr_tmp rfl) ?_
      intro w' hw
      have hf : (l.take 100).any (fun s => decide (100 < s.size)) = false := by rw [hany, List.drop_eq_nil_of_le (by rw [List.length_take]; omega)]; rfl
      have e : greB Bk l = false := by unfold greB; rw [hf]; simp; omega
      rw [e]; exact ⟨rfl, hw.bel⟩
end Go.Proofs.YtjkolebffbeeeaaGreatDoor
